/- Contracts: ticket.At; the reference's Much and Copy (13). -/
import Derived.Test.YtbmphlpmipkpcaaGreatRnm23

set_option linter.unusedVariables false
set_option linter.unusedSimpArgs false
namespace Go.Proofs.YtbmphlpmipkpcaaGreat
open Go.RowKit

attribute [local go_sem ↓] Tk_execLoad Tk_execStore

attribute [local go_sem] Tk_load Tk_store loL_drew okL_drew there_sc World.there_drew

def Tkt.atL (u : Int) (t : Tk) : List Int := if Tkt.mayB t = true then Tkt.thenL u t else []
def Tkt.muchB (t : Tk) : Bool := decide (20 < t.cs.length) || decide (20 < t.ts.length) || decide (100 < t.hs.length) || decide (100 < t.loc.size)
set_option maxRecDepth 4000 in
set_option maxHeartbeats 4000000 in
theorem rmuch_any (t : Tk) (c x h : Sl) (w : World) (ts : TS w t c x h) : Calls Tryz.prog 11 #[.agg #[.int .u64 t.num, .string t.loc, .int .i64 t.iss, .slice c.p c.n c.c, .slice x.p x.n x.c, .int .u64 t.prev, .int .u64 t.org, .int .u64 t.fst, .int .i64 t.vou, .int .i64 t.posts, .slice h.p h.n h.c]] w fun e w' => e = .returned (.bool (Tkt.muchB t)) ∧ Below w.heap.size w w' := by
  have HB := Lib.hid ((Below.refl w.heap.size w).alloc (Nat.le_refl _) (.cells #[.int .u64 t.num, .string t.loc, .int .i64 t.iss, .slice c.p c.n c.c, .slice x.p x.n x.c, .int .u64 t.prev, .int .u64 t.org, .int .u64 t.fst, .int .i64 t.vou, .int .i64 t.posts, .slice h.p h.n h.c] 27 (0, 0)))
  have HR := Lib.hid (new_rowW w (.cells #[.int .u64 t.num, .string t.loc, .int .i64 t.iss, .slice c.p c.n c.c, .slice x.p x.n x.c, .int .u64 t.prev, .int .u64 t.org, .int .u64 t.fst, .int .i64 t.vou, .int .i64 t.posts, .slice h.p h.n h.c] 27 (0, 0)) _ rfl)
  have hc := fun j => cell_of_row _ w.heap.size j _ _ _ HR.out
  have H1 := Lib.hid ts.cs.length; have H2 := Lib.hid ts.ts.length; have H3 := Lib.hid ts.hs.length
  have hl1 := ts.cs.length.2; have hl2 := ts.ts.length.2; have hl3 := ts.hs.length.2; have hl4 := ts.wf.loc
  unfold maxLen at hl1 hl2 hl3 hl4
  clear ts
  go_enter Tryz.func11, Tryz.ntmps11
  go_wp2_with fail
  all_goals
    go_ret
    refine ⟨ret_bool ?_, HB.out⟩
    have h1 := H1.out.1; have h2 := H2.out.1; have h3 := H3.out.1
    unfold Tkt.muchB
    rw [← h1, ← h2, ← h3, Bool.eq_iff_iff]
    clear h1 h2 h3 hc
    simp_all
    try omega

end Go.Proofs.YtbmphlpmipkpcaaGreat
