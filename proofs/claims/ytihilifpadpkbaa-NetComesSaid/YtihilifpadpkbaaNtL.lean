/- Letters handed in as arguments: one, and a list. -/
import Derived.Test.YtihilifpadpkbaaNtA
set_option linter.unusedVariables false
set_option linter.unusedSimpArgs false
namespace Go.Proofs.Ytihilifpadpkbaa
open Go.ChangeShapes Go.WideShapes Go.ChangeAt Go.RowKit Go.Deep

def ltK : List IntKind := [.i64, .i64, .u64, .u64, .i64, .u64, .i64, .i64, .i64, .i64, .i64, .i64, .i64, .i64, .u64]
theorem lt_leaves : leaves Try.prog 4 35 = some (ltK.map .int) := by kernel_rfl
theorem u64_wf {z : Int} (h : (Lit.int .u64 z).wf = true) : U64 z := by
  simpa [U64, Lit.wf, IntKind.min, IntKind.max, IntKind.signed, IntKind.bits] using h
theorem i64_wf {z : Int} (h : (Lit.int .i64 z).wf = true) : I64 z := by
  simpa [I64, Lit.wf, IntKind.min, IntKind.max, IntKind.signed, IntKind.bits] using h
theorem IntsOk.cons {k : IntKind} {ks : List IntKind} : ∀ {zs : List Int}, IntsOk (k :: ks) zs → ∃ z r, zs = z :: r ∧ (Lit.int k z).wf = true ∧ IntsOk ks r
  | z :: r, h => ⟨z, r, rfl, h.1, h.2⟩
  | [], h => h.elim
theorem IntsOk.nil : ∀ {zs : List Int}, IntsOk [] zs → zs = []
  | [], _ => rfl
  | _ :: _, h => h.elim
theorem lt_of_ints (zs : List Int) (h : IntsOk ltK zs) : ∃ x : Lt, x.cells = encI ltK zs ∧ x.fit := by
  unfold ltK at h
  obtain ⟨z0, r0, rfl, w0, h⟩ := h.cons
  obtain ⟨z1, r1, rfl, w1, h⟩ := h.cons
  obtain ⟨z2, r2, rfl, w2, h⟩ := h.cons
  obtain ⟨z3, r3, rfl, w3, h⟩ := h.cons
  obtain ⟨z4, r4, rfl, w4, h⟩ := h.cons
  obtain ⟨z5, r5, rfl, w5, h⟩ := h.cons
  obtain ⟨z6, r6, rfl, w6, h⟩ := h.cons
  obtain ⟨z7, r7, rfl, w7, h⟩ := h.cons
  obtain ⟨z8, r8, rfl, w8, h⟩ := h.cons
  obtain ⟨z9, r9, rfl, w9, h⟩ := h.cons
  obtain ⟨z10, r10, rfl, w10, h⟩ := h.cons
  obtain ⟨z11, r11, rfl, w11, h⟩ := h.cons
  obtain ⟨z12, r12, rfl, w12, h⟩ := h.cons
  obtain ⟨z13, r13, rfl, w13, h⟩ := h.cons
  obtain ⟨z14, r14, rfl, w14, h⟩ := h.cons
  obtain rfl := h.nil
  exact ⟨⟨z0, z1, z2, z3, z4, z5, z6, z7, z8, z9, z10, z11, z12, z13, z14⟩, rfl, u64_wf w2, u64_wf w3, u64_wf w5, i64_wf w11⟩
section
variable {H : Type} {enc : TypeId × Value → H} {W : World} {held : Bool}
set_option maxRecDepth 10000 in
theorem open_letter {r : Reach} {b0 : Nat} {v : Value} {d : DataW H} {ps : List MemPlace} (hv : Value.okWide Try.prog W r b0 35 v) (h : DataW.Trod enc Try.prog W 0 (fun _ => true) held 35 v d ps) : ∃ x : Lt, v = .agg #[.int .i64 x.f, .int .i64 x.t, .int .u64 x.n, .int .u64 x.a, .int .i64 x.k, .int .u64 x.tk, .int .i64 x.c, .int .i64 x.d, .int .i64 x.co, .int .i64 x.fl, .int .i64 x.dy, .int .i64 x.va, .int .i64 x.st, .int .i64 x.ho, .int .u64 x.nx] ∧ x.fit := by
  obtain ⟨cs, rfl, hc⟩ := open_leaves Try.underlying35 lt_leaves hv h
  obtain ⟨zs, hz, rfl⟩ := ints_of_all hc
  obtain ⟨x, hx, hf⟩ := lt_of_ints zs hz
  exact ⟨x, by rw [← hx]; rfl, hf⟩
theorem open_letters {fuel : Nat} {v : Value} {x : DataW H × List MemPlace} (h : DataW.trod enc Try.prog W 0 (fun _ => true) held fuel 22 [v] = some x) : ∃ l : List Lt, LS Lt.cells 15 W v l ∧ ∀ y ∈ l, y.fit :=
  open_recs (n := 4) (ks := ltK) (fun y : Lt => y.fit) (fun zs hz => by obtain ⟨a, h1, h2⟩ := lt_of_ints zs hz; exact ⟨a, h1, h2⟩) Try.underlying22 lt_leaves (by kernel_rfl) (by decide) h
theorem open_int_list {fuel : Nat} {v : Value} {x : DataW H × List MemPlace} (h : DataW.trod enc Try.prog W 0 (fun _ => true) held fuel 23 [v] = some x) : ∃ l : List Int, LS intC 1 W v l ∧ ∀ y ∈ l, (Lit.int .i64 y).wf = true :=
  open_recs (n := 3) (ks := [.i64]) (fun y : Int => (Lit.int .i64 y).wf = true) (fun zs hz => by
    match zs, hz with
    | [z], hz => exact ⟨z, rfl, hz.1⟩
    | [], hz => exact hz.elim
    | _ :: _ :: _, hz => exact hz.2.elim) Try.underlying23 (by kernel_rfl) (by kernel_rfl) (by decide) h
end
end Go.Proofs.Ytihilifpadpkbaa
