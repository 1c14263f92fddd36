/- When a bundle is valid: the reference's test and the program's test tell the same. -/
import Derived.Test.YtaapbnhggfmlpaaB0
import Derived.Test.YtaapbnhggfmlpaaPxf74
import Derived.Test.YtaapbnhggfmlpaaPxf54
namespace Go.Proofs.Ytaapbnhggfmlpaa.B
open Go.RowKit Go.Proofs.Ytaapbnhggfmlpaa.P Go.Proofs.YtaapbnhggfmlpaaW.PrintWords Go.Proofs.YtaapbnhggfmlpaaW.PrintLast

/-- The weight of two wires. -/
def Wt (l : List (List Int)) (i j : Nat) : Int := (l.getD i []).getD j 0
structure Valid (l : List (List Int)) : Prop where
  pos : 1 ≤ l.length
  le : l.length ≤ 9
  row : ∀ i, i < l.length → (l.getD i []).length = l.length
  bound : ∀ i j, i < l.length → j < l.length → 0 ≤ Wt l i j ∧ Wt l i j ≤ 1000
  sym : ∀ i j, i < l.length → j < l.length → Wt l i j = Wt l j i
  zero : ∀ i, i < l.length → Wt l i i = 0

theorem in_spec (a b c : Int) : spec_l00In.f a b c = some (decide (a ≥ b ∧ a ≤ c)) := by
  unfold spec_l00In.f
  by_cases h : a ≥ b
  · rw [if_pos h]; simp [h]
  · rw [if_neg h]; simp [h]
theorem in_impl (a b c : Int) : impl_in.f a b c = some (decide (a ≥ b ∧ a ≤ c)) := by
  unfold impl_in.f
  by_cases h : a ≥ b
  · rw [if_pos h]; simp [h]
  · rw [if_neg h]; simp [h]

section
variable (l : List (List Int)) (n9 : l.length ≤ 9)
include n9
def CellOk (i j : Nat) : Prop := 0 ≤ Wt l i j ∧ Wt l i j ≤ 1000 ∧ Wt l i j = Wt l j i ∧ Wt l i i = 0

theorem is2 (hrow : ∀ i, i < l.length → (l.getD i []).length = l.length) (i : Nat) (hi : i < l.length) (F : Nat → Prop) (rest : ∀ k, 276 ≤ k + 24 * i → ∃ b, spec_l10Is.l1 k l.length ((i + 1 : Nat) : Int) l = some b ∧ (b = true ↔ F i)) :
    ∀ (d k j : Nat), l.length - j = d → 2 * d + 277 ≤ k + 24 * i → j ≤ l.length → ∃ b, spec_l10Is.l2 k l.length i j l = some b ∧ (b = true ↔ (∀ j', j ≤ j' → j' < l.length → CellOk l i j') ∧ F i) := by
  intro d
  induction d with
  | zero =>
    intro k j hd hk hj
    obtain ⟨k, rfl⟩ : ∃ m, k = m + 1 := ⟨k - 1, by omega⟩
    simp only [spec_l10Is.l2]
    rw [if_neg (by omega), w64s hi (by omega)]
    obtain ⟨b, hb, hb'⟩ := rest k (by omega)
    exact ⟨b, hb, hb'.trans ⟨fun h => ⟨fun j' h1 h2 => by omega, h⟩, fun h => h.2⟩⟩
  | succ d ih =>
    intro k j hd hk hj
    obtain ⟨k, rfl⟩ : ∃ m, k = m + 1 := ⟨k - 1, by omega⟩
    have hjl : j < l.length := by omega
    have e1 := hrow i hi
    have e2 := hrow j hjl
    obtain ⟨k, rfl⟩ : ∃ m, k = m + 1 := ⟨k - 1, by omega⟩
    simp only [spec_l10Is.l2, spec_l10Is.j3]
    rw [if_pos (by omega), if_pos (by omega), if_pos (by omega), if_pos (by omega), rdL_nat, rdL_nat, if_pos (by omega), rd_nat, rd_nat, rd_nat, in_spec]
    simp only [Option.bind_some]
    rw [show (l.getD i []).getD j 0 = Wt l i j from rfl, show (l.getD j []).getD i 0 = Wt l j i from rfl, show (l.getD i []).getD i 0 = Wt l i i from rfl]
    obtain ⟨b, hb, hb'⟩ := ih k (j + 1) (by omega) (by omega) (by omega)
    have split : (∀ j', j ≤ j' → j' < l.length → CellOk l i j') ↔ CellOk l i j ∧ ∀ j', j + 1 ≤ j' → j' < l.length → CellOk l i j' :=
      ⟨fun h => ⟨h j (Nat.le_refl _) hjl, fun j' h1 h2 => h j' (by omega) h2⟩, fun h j' h1 h2 => by
        by_cases e : j' = j
        · subst e; exact h.1
        · exact h.2 j' (by omega) h2⟩
    rw [split]
    by_cases c1 : Wt l i j ≥ 0 ∧ Wt l i j ≤ 1000
    · rw [decide_eq_true c1, if_pos rfl, if_pos (by omega), if_pos (by omega)]
      by_cases c2 : Wt l i j = Wt l j i
      · rw [if_pos c2, if_pos (by omega)]
        by_cases c3 : Wt l i i = 0
        · rw [if_neg (by simp [c3]), w64s hjl (by omega)]
          refine ⟨b, hb, hb'.trans ?_⟩
          have : CellOk l i j := ⟨c1.1, c1.2, c2, c3⟩
          simp [this]
        · rw [if_pos (by simp [c3])]
          exact ⟨false, rfl, by constructor; (intro h; cases h); (intro h; exact absurd h.1.1.2.2.2 c3)⟩
      · rw [if_neg c2, if_pos trivial]
        exact ⟨false, rfl, by constructor; (intro h; cases h); (intro h; exact absurd h.1.1.2.2.1 c2)⟩
    · rw [decide_eq_false c1, if_neg (by decide), if_pos trivial]
      exact ⟨false, rfl, by constructor; (intro h; cases h); (intro h; exact absurd ⟨h.1.1.1, h.1.1.2.1⟩ c1)⟩

theorem is1 (hrow : ∀ i, i < l.length → (l.getD i []).length = l.length) : ∀ (d i k : Nat), l.length - i = d → 300 ≤ k + 24 * i → i ≤ l.length →
    ∃ b, spec_l10Is.l1 k l.length i l = some b ∧ (b = true ↔ ∀ i', i ≤ i' → i' < l.length → ∀ j, j < l.length → CellOk l i' j) := by
  intro d
  induction d with
  | zero =>
    intro i k hd hk hi
    obtain ⟨k, rfl⟩ : ∃ m, k = m + 1 := ⟨k - 1, by omega⟩
    simp only [spec_l10Is.l1]
    rw [if_neg (by omega)]
    exact ⟨true, rfl, by simp; intro i' h1 h2; omega⟩
  | succ d ih =>
    intro i k hd hk hi
    obtain ⟨k, rfl⟩ : ∃ m, k = m + 1 := ⟨k - 1, by omega⟩
    have hil : i < l.length := by omega
    simp only [spec_l10Is.l1]
    rw [if_pos (by omega)]
    obtain ⟨b, hb, hb'⟩ := is2 l n9 hrow i hil (fun i => ∀ i', i + 1 ≤ i' → i' < l.length → ∀ j, j < l.length → CellOk l i' j) (fun k hk => ih (i + 1) k (by omega) (by omega) (by omega)) l.length k 0 rfl (by omega) (by omega)
    refine ⟨b, hb, hb'.trans ⟨fun h i' h1 h2 j hj => ?_, fun h => ⟨fun j' _ h2 => h i (Nat.le_refl _) hil j' h2, fun i' h1 h2 => h i' (by omega) h2⟩⟩⟩
    by_cases e : i' = i
    · subst e; exact h.1 j (by omega) hj
    · exact h.2 i' (by omega) h2 j hj

theorem is0 : ∀ (d i k : Nat), l.length - i = d → 320 ≤ k + i → i ≤ l.length → (∀ j, j < i → (l.getD j []).length = l.length) →
    ∃ b, spec_l10Is.l0 k l.length i l = some b ∧ (b = true ↔ (∀ i', i' < l.length → (l.getD i' []).length = l.length) ∧ ∀ i', i' < l.length → ∀ j, j < l.length → CellOk l i' j) := by
  intro d
  induction d with
  | zero =>
    intro i k hd hk hi hr
    obtain ⟨k, rfl⟩ : ∃ m, k = m + 1 := ⟨k - 1, by omega⟩
    simp only [spec_l10Is.l0]
    rw [if_neg (by omega)]
    have hr' : ∀ i', i' < l.length → (l.getD i' []).length = l.length := fun i' h => hr i' (by omega)
    obtain ⟨b, hb, hb'⟩ := is1 l n9 hr' l.length 0 k rfl (by omega) (by omega)
    exact ⟨b, hb, hb'.trans ⟨fun h => ⟨hr', fun i' h2 => h i' (by omega) h2⟩, fun h i' _ h2 => h.2 i' h2⟩⟩
  | succ d ih =>
    intro i k hd hk hi hr
    obtain ⟨k, rfl⟩ : ∃ m, k = m + 1 := ⟨k - 1, by omega⟩
    have hil : i < l.length := by omega
    simp only [spec_l10Is.l0]
    rw [if_pos (by omega), if_pos (by omega), if_pos (by omega), rdL_nat]
    by_cases c : (l.getD i []).length = l.length
    · rw [if_pos (by omega), w64s hil (by omega)]
      exact ih (i + 1) k (by omega) (by omega) (by omega) (fun j hj => by
        by_cases e : j = i
        · subst e; exact c
        · exact hr j (by omega))
    · rw [if_neg (by omega)]
      exact ⟨false, rfl, by simp; intro h; exact absurd (h i hil) c⟩
end

theorem valid_iff (l : List (List Int)) (n1 : 1 ≤ l.length) (n9 : l.length ≤ 9) : Valid l ↔ (∀ i', i' < l.length → (l.getD i' []).length = l.length) ∧ ∀ i', i' < l.length → ∀ j, j < l.length → CellOk l i' j :=
  ⟨fun h => ⟨h.row, fun i hi j hj => ⟨(h.bound i j hi hj).1, (h.bound i j hi hj).2, h.sym i j hi hj, h.zero i hi⟩⟩,
   fun h => ⟨n1, n9, h.1, fun i j hi hj => ⟨(h.2 i hi j hj).1, (h.2 i hi j hj).2.1⟩, fun i j hi hj => (h.2 i hi j hj).2.2.1, fun i hi => (h.2 i hi i hi).2.2.2⟩⟩

open Classical in
theorem l10Is (l : List (List Int)) (k : Nat) (hk : 320 ≤ k) : spec_l10Is.f k l = some (decide (Valid l)) := by
  unfold spec_l10Is.f
  rw [in_spec]
  simp only [Option.bind_some]
  by_cases c : (l.length : Int) ≥ 1 ∧ (l.length : Int) ≤ 9
  · rw [decide_eq_true c, if_pos rfl, show (0 : Int) = ((0 : Nat) : Int) from rfl]
    obtain ⟨b, hb, hb'⟩ := is0 l (by omega) l.length 0 k rfl (by omega) (by omega) (fun j hj => by omega)
    rw [hb]
    rw [← valid_iff l (by omega) (by omega)] at hb'
    congr 1
    rw [Bool.eq_iff_iff, hb']; simp
  · rw [decide_eq_false c, if_neg (by decide)]
    congr 1
    symm
    rw [decide_eq_false_iff_not]
    intro h
    exact c ⟨by have := h.pos; omega, by have := h.le; omega⟩

/-! ### the program's test -/
section
variable (l : List (List Int)) (n9 : l.length ≤ 9)
include n9
def RowOk (i : Nat) : Prop := (l.getD i []).length = l.length ∧ Wt l i i = 0 ∧ ∀ j, j < l.length → 0 ≤ Wt l i j ∧ Wt l i j ≤ 1000 ∧ (l.getD j []).length = l.length ∧ Wt l j i = Wt l i j

theorem vb1 (i : Nat) (hi : i < l.length) (hrow : (l.getD i []).length = l.length) (F : Nat → Prop) (rest : ∀ k, 226 ≤ k + 24 * i → ∃ b, impl_ValidBundle.l0 k l.length l l.length ((i + 1 : Nat) : Int) l = some b ∧ (b = true ↔ F i)) :
    ∀ (d k j : Nat), l.length - j = d → 2 * d + 227 ≤ k + 24 * i → j ≤ l.length → ∃ b, impl_ValidBundle.l1 k l.length i l l.length i (l.getD i []) ((l.getD i []).length) j l = some b ∧ (b = true ↔ (∀ j', j ≤ j' → j' < l.length → 0 ≤ Wt l i j' ∧ Wt l i j' ≤ 1000 ∧ (l.getD j' []).length = l.length ∧ Wt l j' i = Wt l i j') ∧ F i) := by
  intro d
  induction d with
  | zero =>
    intro k j hd hk hj
    obtain ⟨k, rfl⟩ : ∃ m, k = m + 1 := ⟨k - 1, by omega⟩
    simp only [impl_ValidBundle.l1]
    rw [if_neg (by omega), w64s hi (by omega)]
    obtain ⟨b, hb, hb'⟩ := rest k (by omega)
    exact ⟨b, hb, hb'.trans ⟨fun h => ⟨fun j' h1 h2 => by omega, h⟩, fun h => h.2⟩⟩
  | succ d ih =>
    intro k j hd hk hj
    obtain ⟨k, rfl⟩ : ∃ m, k = m + 1 := ⟨k - 1, by omega⟩
    have hjl : j < l.length := by omega
    obtain ⟨k, rfl⟩ : ∃ m, k = m + 1 := ⟨k - 1, by omega⟩
    simp only [impl_ValidBundle.l1, impl_ValidBundle.j3]
    rw [if_pos (by omega), if_pos (by omega), if_pos (by omega), rd_nat, in_impl]
    simp only [Option.bind_some]
    rw [rdL_nat, rd_nat, show (l.getD i []).getD j 0 = Wt l i j from rfl, show (l.getD j []).getD i 0 = Wt l j i from rfl]
    obtain ⟨b, hb, hb'⟩ := ih k (j + 1) (by omega) (by omega) (by omega)
    have split : (∀ j', j ≤ j' → j' < l.length → 0 ≤ Wt l i j' ∧ Wt l i j' ≤ 1000 ∧ (l.getD j' []).length = l.length ∧ Wt l j' i = Wt l i j') ↔ (0 ≤ Wt l i j ∧ Wt l i j ≤ 1000 ∧ (l.getD j []).length = l.length ∧ Wt l j i = Wt l i j) ∧ ∀ j', j + 1 ≤ j' → j' < l.length → 0 ≤ Wt l i j' ∧ Wt l i j' ≤ 1000 ∧ (l.getD j' []).length = l.length ∧ Wt l j' i = Wt l i j' :=
      ⟨fun h => ⟨h j (Nat.le_refl _) hjl, fun j' h1 h2 => h j' (by omega) h2⟩, fun h j' h1 h2 => by
        by_cases e : j' = j
        · subst e; exact h.1
        · exact h.2 j' (by omega) h2⟩
    rw [split]
    by_cases c1 : Wt l i j ≥ 0 ∧ Wt l i j ≤ 1000
    · rw [decide_eq_true c1, if_pos rfl, if_pos (by omega)]
      by_cases c2 : (l.getD j []).length = l.length
      · rw [if_pos (by omega), if_pos (by omega), if_pos (by omega)]
        by_cases c3 : Wt l j i = Wt l i j
        · rw [if_neg (by simp [c3]), w64s hjl (by omega)]
          exact ⟨b, hb, hb'.trans ⟨fun h => ⟨⟨⟨c1.1, c1.2, c2, c3⟩, h.1⟩, h.2⟩, fun h => ⟨h.1.2, h.2⟩⟩⟩
        · rw [if_pos (by simp [c3])]
          exact ⟨false, rfl, by constructor; (intro h; cases h); (intro h; exact absurd h.1.1.2.2.2 c3)⟩
      · rw [if_neg (by omega), if_pos trivial]
        exact ⟨false, rfl, by constructor; (intro h; cases h); (intro h; exact absurd h.1.1.2.2.1 c2)⟩
    · rw [decide_eq_false c1, if_neg (by decide), if_pos trivial]
      exact ⟨false, rfl, by constructor; (intro h; cases h); (intro h; exact absurd ⟨h.1.1.1, h.1.1.2.1⟩ c1)⟩

theorem vb0 : ∀ (d i k : Nat), l.length - i = d → 250 ≤ k + 24 * i → i ≤ l.length →
    ∃ b, impl_ValidBundle.l0 k l.length l l.length i l = some b ∧ (b = true ↔ ∀ i', i ≤ i' → i' < l.length → RowOk l i') := by
  intro d
  induction d with
  | zero =>
    intro i k hd hk hi
    obtain ⟨k, rfl⟩ : ∃ m, k = m + 1 := ⟨k - 1, by omega⟩
    simp only [impl_ValidBundle.l0]
    rw [if_neg (by omega)]
    exact ⟨true, rfl, by simp; intro i' h1 h2; omega⟩
  | succ d ih =>
    intro i k hd hk hi
    obtain ⟨k, rfl⟩ : ∃ m, k = m + 1 := ⟨k - 1, by omega⟩
    obtain ⟨k, rfl⟩ : ∃ m, k = m + 1 := ⟨k - 1, by omega⟩
    have hil : i < l.length := by omega
    have split : (∀ i', i ≤ i' → i' < l.length → RowOk l i') ↔ RowOk l i ∧ ∀ i', i + 1 ≤ i' → i' < l.length → RowOk l i' :=
      ⟨fun h => ⟨h i (Nat.le_refl _) hil, fun j' h1 h2 => h j' (by omega) h2⟩, fun h j' h1 h2 => by
        by_cases e : j' = i
        · subst e; exact h.1
        · exact h.2 j' (by omega) h2⟩
    rw [split]
    simp only [impl_ValidBundle.l0, impl_ValidBundle.j1]
    rw [if_pos (by omega), if_pos (by omega), if_pos (by omega), rdL_nat]
    by_cases c : (l.getD i []).length = l.length
    · rw [if_pos (by omega), if_pos (by omega), rd_nat, show (l.getD i []).getD i 0 = Wt l i i from rfl]
      by_cases c0 : Wt l i i = 0
      · rw [if_neg (by simp [c0])]
        obtain ⟨b, hb, hb'⟩ := vb1 l n9 i hil c (fun i => ∀ i', i + 1 ≤ i' → i' < l.length → RowOk l i') (fun k hk => ih (i + 1) k (by omega) (by omega) (by omega)) l.length k 0 rfl (by omega) (by omega)
        refine ⟨b, hb, hb'.trans ⟨fun h => ⟨⟨c, c0, fun j hj => h.1 j (by omega) hj⟩, h.2⟩, fun h => ⟨fun j' _ h2 => h.1.2.2 j' h2, h.2⟩⟩⟩
      · rw [if_pos (by simp [c0])]
        exact ⟨false, rfl, by constructor; (intro h; cases h); (intro h; exact absurd h.1.2.1 c0)⟩
    · rw [if_neg (by omega), if_pos trivial]
      exact ⟨false, rfl, by constructor; (intro h; cases h); (intro h; exact absurd h.1.1 c)⟩
end
theorem valid_iff' (l : List (List Int)) (n1 : 1 ≤ l.length) (n9 : l.length ≤ 9) : Valid l ↔ ∀ i, i < l.length → RowOk l i :=
  ⟨fun h i hi => ⟨h.row i hi, h.zero i hi, fun j hj => ⟨(h.bound i j hi hj).1, (h.bound i j hi hj).2, h.row j hj, h.sym j i hj hi⟩⟩,
   fun h => ⟨n1, n9, fun i hi => (h i hi).1, fun i j hi hj => ⟨((h i hi).2.2 j hj).1, ((h i hi).2.2 j hj).2.1⟩, fun i j hi hj => ((h i hi).2.2 j hj).2.2.2.symm, fun i hi => (h i hi).2.1⟩⟩

open Classical in
theorem validBundle (l : List (List Int)) (k : Nat) (hk : 250 ≤ k) : impl_ValidBundle.f k l = some (decide (Valid l)) := by
  unfold impl_ValidBundle.f
  rw [in_impl]
  simp only [Option.bind_some]
  by_cases c : (l.length : Int) ≥ 1 ∧ (l.length : Int) ≤ 9
  · rw [decide_eq_true c, if_pos rfl, show (0 : Int) = ((0 : Nat) : Int) from rfl]
    obtain ⟨b, hb, hb'⟩ := vb0 l (by omega) l.length 0 k rfl (by omega) (by omega)
    rw [hb]
    have hb'' : b = true ↔ Valid l := hb'.trans ((valid_iff' l (by omega) (by omega)).trans ⟨fun h i _ hi => h i hi, fun h i hi => h i (by omega) hi⟩).symm
    congr 1
    rw [Bool.eq_iff_iff, hb'']; simp
  · rw [decide_eq_false c, if_neg (by decide)]
    congr 1
    symm
    rw [decide_eq_false_iff_not]
    intro h
    exact c ⟨by have := h.pos; omega, by have := h.le; omega⟩
end Go.Proofs.Ytaapbnhggfmlpaa.B
