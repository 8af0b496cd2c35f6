/- Plain words for the laws on states: what one entry does. -/
import Derived.Test.YtbddahdkjngecaaDoorKeepF
import Derived.Deep.LoopGhost
import Derived.Outline
namespace Go.Proofs.YtbddahdkjngecaaDoor
open Go.RowKit
set_option linter.unusedVariables false

theorem allR_one {s : StS} (hv : Vld s) (x : Ent) (hf : formR x = 0) : allR s [x] = if (applyR s x).1 ≠ 0 then ((applyR s x).1, noneS) else (0, (applyR s x).2) := by
  unfold allR
  rw [if_neg (by rw [(vld_iff s).2 hv]; simp), if_neg (by simp)]
  have hg : goR s [x] = if (applyR s x).1 ≠ 0 then applyR s x else (0, (applyR s x).2) := by
    rw [goR_cons, if_neg (by rw [hf]; simp)]
    rfl
  rw [hg]
  by_cases h : (applyR s x).1 ≠ 0
  · rw [if_pos h, if_pos h, if_pos h]
  · rw [if_neg h, if_neg h, if_neg (by simp)]
theorem EsAt.pre {w : World} {A : Option Addr} {a b : List Ent} (h : EsAt w A (a ++ b)) : EsAt w A a := fun j hj => by
  have h2 := h j (by rw [List.length_append]; omega)
  rw [List.getElem_append_left hj] at h2
  exact h2
theorem MsAt.pre {w : World} {A : Option Addr} {a b : List MailS} (h : MsAt w A (a ++ b)) : MsAt w A a := fun j m hj =>
  h j m (by rw [List.getElem?_append_left (List.getElem?_eq_some_iff.1 hj).1]; exact hj)
theorem EsAt.last {w : World} {A : Option Addr} {a : List Ent} {x : Ent} (h : EsAt w A (a ++ [x])) : ∃ b off, A = some ⟨b, off, none⟩ ∧ w.cell? ⟨b, off + a.length * 6, none⟩ = some (.int .i64 x.kind) ∧ w.cell? ⟨b, off + a.length * 6 + 1, none⟩ = some (.string x.box) ∧ w.cell? ⟨b, off + a.length * 6 + 2, none⟩ = some (.int .i64 x.uid)
    ∧ w.cell? ⟨b, off + a.length * 6 + 3, none⟩ = some (.int .i64 x.flags) ∧ w.cell? ⟨b, off + a.length * 6 + 4, none⟩ = some (.string x.dst) ∧ w.cell? ⟨b, off + a.length * 6 + 5, none⟩ = some (.string x.text) := by
  have h2 := h a.length (by simp)
  simpa using h2
end Go.Proofs.YtbddahdkjngecaaDoor
