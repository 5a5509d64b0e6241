/- Contracts: the reference's Last and Change (13). -/
import Derived.Test.YtadabjkhiaidcaaDsl3
import Derived.Test.YtadabjkhiaidcaaDsl23
import Derived.Test.YtadabjkhiaidcaaDsl24

set_option linter.unusedVariables false
set_option linter.unusedSimpArgs false
namespace Go.Proofs.Ytadabjkhiaidcaa
open Go.RowKit

attribute [local go_sem ↓] Tk_execLoad Tk_execStore Cp_execLoad Cp_execStore

attribute [local go_sem] Tk_load Tk_store Cp_load Cp_store loL_drew okL_drew there_sc World.there_drew

theorem own_setRecT {w : World} {base e m b cap k : Nat} {l : List Cpn} {x x' : Cpn} (h : w.ownsRow base e 6 (.slice (some ⟨b, 0, none⟩) m cap) m (encL Cpn.cells (l.set k x))) (hk : k < l.length) :
    (w.setCells b (k * 6) x'.cells).ownsRow base e 6 (.slice (some ⟨b, 0, none⟩) m cap) m (encL Cpn.cells (l.set k x')) := by
  have h0 := own_updT Cpn.cells_length (j := 0) (u := .int .i64 x'.fl) (x' := ⟨x'.fl, x.dy, x.va, x.st, x.ho, x.nx⟩) h hk (by decide) rfl
  have h1 := own_updT Cpn.cells_length (j := 1) (u := .int .i64 x'.dy) (x' := ⟨x'.fl, x'.dy, x.va, x.st, x.ho, x.nx⟩) h0 hk (by decide) rfl
  have h2 := own_updT Cpn.cells_length (j := 2) (u := .int .i64 x'.va) (x' := ⟨x'.fl, x'.dy, x'.va, x.st, x.ho, x.nx⟩) h1 hk (by decide) rfl
  have h3 := own_updT Cpn.cells_length (j := 3) (u := .int .i64 x'.st) (x' := ⟨x'.fl, x'.dy, x'.va, x'.st, x.ho, x.nx⟩) h2 hk (by decide) rfl
  have h4 := own_updT Cpn.cells_length (j := 4) (u := .int .i64 x'.ho) (x' := ⟨x'.fl, x'.dy, x'.va, x'.st, x'.ho, x.nx⟩) h3 hk (by decide) rfl
  have h5 := own_updT Cpn.cells_length (j := 5) (u := .int .u64 x'.nx) (x' := x') h4 hk (by decide) rfl
  exact h5
end Go.Proofs.Ytadabjkhiaidcaa
