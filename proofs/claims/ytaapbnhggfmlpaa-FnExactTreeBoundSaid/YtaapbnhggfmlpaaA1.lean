/- Plain functions for the tree bound. -/
import Derived.RowKit
namespace Go.Proofs.Ytaapbnhggfmlpaa.A
open Go.RowKit
def tbIn (R : List Int) (i : Int) : List Int → Int → Int → Int → Int × Int
  | [], _, b, a => (b, a)
  | w :: ws, k, b, a => if i ∈ R ∧ k ∉ R ∧ (b < 0 ∨ w < b) then tbIn R i ws (k + 1) w k else tbIn R i ws (k + 1) b a
def tbOut (R : List Int) : List (List Int) → Int → Int → Int → Int × Int
  | [], _, b, a => (b, a)
  | row :: rs, i, b, a => tbOut R rs (i + 1) (tbIn R i row 0 b a).1 (tbIn R i row 0 b a).2
def tbRun (l : List (List Int)) : Nat → List Int → Int → Option Int
  | 0, _, _ => none
  | f + 1, R, s => if R.length < l.length then (if (tbOut R l 0 (-1) 0).2 ∈ R ∨ (Lit.int .i64 (tbOut R l 0 (-1) 0).2).wf = false then none else tbRun l f ((tbOut R l 0 (-1) 0).2 :: R) (wrap64 (s + (tbOut R l 0 (-1) 0).1))) else some s
theorem tbIn_drop (R : List Int) (i : Int) (row : List Int) (k : Nat) (b a : Int) (h : k < row.length) :
    tbIn R i (row.drop k) k b a = if i ∈ R ∧ (k : Int) ∉ R ∧ (b < 0 ∨ row.getD k 0 < b) then tbIn R i (row.drop (k + 1)) (k + 1) (row.getD k 0) k else tbIn R i (row.drop (k + 1)) (k + 1) b a := by
  rw [List.drop_eq_getElem_cons h]
  simp only [tbIn, List.getD_eq_getElem?_getD, List.getElem?_eq_getElem h, Option.getD_some]
theorem tbOut_drop (R : List Int) (l : List (List Int)) (i : Nat) (b a : Int) (h : i < l.length) :
    tbOut R (l.drop i) i b a = tbOut R (l.drop (i + 1)) (i + 1) (tbIn R i (l.getD i []) 0 b a).1 (tbIn R i (l.getD i []) 0 b a).2 := by
  rw [List.drop_eq_getElem_cons h]
  simp only [tbOut, List.getD_eq_getElem?_getD, List.getElem?_eq_getElem h, Option.getD_some]
end Go.Proofs.Ytaapbnhggfmlpaa.A
