/- Functions that hand back a row of cells and a value. -/
import Derived.Test.YtpgakdioaebikaaDoorBase
namespace Go.Proofs.YtpgakdioaebikaaDoor
open Go.RowKit

theorem ret_agg_tmp {P : Program} {fn : Func} {R : Ending → World → Prop} {a : Act} {w : World} {p u : Tmp} {ty : TypeId} {d : TypeDesc} {n : Nat} {v : Value} (hr : fn.results = #[.cell p ty, .tmp u]) (hu : P.underlying ty = some d) (hi : (P.info? ty).map (·.size) = some n) (hd : (match d with | .struct _ | .array _ _ => true | _ => false) = true)
    {g : Nat} {t : TypeId} {fr : Nat × Nat} {cs : List Value} (hg : w.heap[g]? = some (.cells cs.toArray t fr)) (hn : cs.length = n) (hp : a.tmps.getD p undef = .pointer (some ⟨g, 0, none⟩)) (hv : a.tmps.getD u undef = v) (h0 : a.defers = [])
    (h : R (.returned (.tuple #[.agg cs.toArray, v])) w) : bodyPost P fn R .ret a w := by
  have hp' : a.tmps[p]?.getD undef = .pointer (some ⟨g, 0, none⟩) := by simpa using hp
  have hv' : a.tmps[u]?.getD undef = v := by simpa using hv
  have hl := run_loadVar_row (P := P) w g t ty cs.toArray fr d hg hu hd (by rw [hi, ← hn]; simp)
  refine bodyPost_ret ?_ h0 h
  simp [results, hr, hp', hv', asAddr, hl]
end Go.Proofs.YtpgakdioaebikaaDoor
