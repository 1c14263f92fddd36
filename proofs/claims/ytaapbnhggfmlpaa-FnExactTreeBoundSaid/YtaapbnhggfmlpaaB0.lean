/- What the printed copies, comparisons and sizes of slices come to. -/
import Derived.Test.YtaapbnhggfmlpaaPxf24
import Derived.Test.YtaapbnhggfmlpaaPxf26
import Derived.Test.YtaapbnhggfmlpaaPxf28
namespace Go.Proofs.Ytaapbnhggfmlpaa.B
open Go.RowKit Go.Proofs.Ytaapbnhggfmlpaa.P Go.Proofs.YtaapbnhggfmlpaaW.PrintWords Go.Proofs.YtaapbnhggfmlpaaW.PrintLast

theorem w64 {x : Int} (h : -9223372036854775808 ≤ x ∧ x ≤ 9223372036854775807) : wrap64 x = x := by unfold wrap64; omega
theorem w64s {i n : Nat} (h : i < n) (hn : n ≤ 9223372036854775807) : wrap64 ((i : Int) + 1) = ((i + 1 : Nat) : Int) := by rw [w64 (by omega)]; push_cast; rfl
theorem rd_nat (xs : List Int) (i : Nat) : rd xs (i : Int) = xs.getD i 0 := rfl
theorem rdL_nat (xs : List (List Int)) (i : Nat) : rd_Ls2 xs (i : Int) = xs.getD i [] := rfl
theorem getD_mem {α : Type} {l : List α} {i : Nat} {d : α} (h : i < l.length) : l.getD i d ∈ l := by
  rw [List.getD_eq_getElem?_getD, List.getElem?_eq_getElem h]; exact List.getElem_mem h

theorem szI (l : List Int) (a : Int) (hl : l.length ≤ 9223372036854775807) (h0 : 0 ≤ a) (h1 : a ≤ 1048576) :
    laws_szInt64S.f l a = some (if a < l.length then -1 else a - l.length) := by
  unfold laws_szInt64S.f
  rw [w64 (by omega)]
  by_cases h : a < l.length
  · rw [if_pos (by omega), if_pos h]
  · rw [if_neg (by omega), if_neg h]

theorem szSS0 (l : List (List Int)) (hl : l.length ≤ 9223372036854775807) (hm : ∀ r ∈ l, r.length ≤ 9223372036854775807) : ∀ (d k i : Nat) (x : Int), l.length - i = d → d < k → i ≤ l.length → 0 ≤ x → x ≤ 1048576 →
    ∃ r, laws_szInt64SS.l0 k l x i = some r ∧ (0 ≤ r → r ≤ x ∧ ∀ j, i ≤ j → j < l.length → (l.getD j []).length ≤ 1048576) := by
  intro d
  induction d with
  | zero =>
    intro k i x hd hk hi h0 h1
    obtain ⟨k, rfl⟩ : ∃ m, k = m + 1 := ⟨k - 1, by omega⟩
    exact ⟨x, by simp only [laws_szInt64SS.l0]; rw [if_neg (by omega)], fun _ => ⟨Int.le_refl _, fun j h1 h2 => by omega⟩⟩
  | succ d ih =>
    intro k i x hd hk hi h0 h1
    obtain ⟨k, rfl⟩ : ∃ m, k = m + 1 := ⟨k - 1, by omega⟩
    have hlt : i < l.length := by omega
    have hrow := hm _ (getD_mem (d := []) hlt)
    simp only [laws_szInt64SS.l0]
    rw [if_pos (by omega), if_pos (by omega), rdL_nat, szI _ _ hrow h0 h1]
    simp only [Option.bind_some]
    by_cases hx : x < (l.getD i []).length
    · rw [if_pos hx, if_pos (by omega)]
      exact ⟨-1, rfl, fun h => by omega⟩
    · rw [if_neg hx, if_neg (by omega), w64s hlt hl]
      obtain ⟨r, hr, hr'⟩ := ih k (i + 1) (x - (l.getD i []).length) (by omega) (by omega) (by omega) (by omega) (by omega)
      refine ⟨r, hr, fun h => ⟨by have := (hr' h).1; omega, fun j hj hj' => ?_⟩⟩
      by_cases e : j = i
      · subst e; omega
      · exact (hr' h).2 j (by omega) hj'

/-- Whatever rows there are: the size is told; where it isn't negative, no list is long. -/
theorem szBundle (l : List (List Int)) (hl : l.length ≤ 9223372036854775807) (hm : ∀ r ∈ l, r.length ≤ 9223372036854775807) (k : Nat) (hk : 1048578 ≤ k) :
    ∃ r, laws_szBundle.f k l 1048576 = some r ∧ (0 ≤ r → l.length ≤ 1048576 ∧ ∀ q ∈ l, q.length ≤ 1048576) := by
  unfold laws_szBundle.f laws_szInt64SS.f
  rw [w64 (by omega)]
  by_cases h : (1048576 : Int) < l.length
  · rw [if_pos (by omega)]
    exact ⟨-1, by simp, fun h => by omega⟩
  · rw [if_neg (by omega)]
    obtain ⟨r, hr, hr'⟩ := szSS0 l hl hm l.length k 0 (1048576 - l.length) rfl (by omega) (by omega) (by omega) (by omega)
    rw [show ((0 : Nat) : Int) = 0 from rfl] at hr
    rw [hr]
    simp only [Option.bind_some]
    by_cases hn : r < 0
    · exact ⟨-1, by rw [if_pos hn], fun h => by omega⟩
    · refine ⟨r, by rw [if_neg hn], fun _ => ⟨by omega, fun q hq => ?_⟩⟩
      obtain ⟨j, hj, rfl⟩ := List.getElem_of_mem hq
      have := (hr' (by omega)).2 j (by omega) hj
      rwa [List.getD_eq_getElem?_getD, List.getElem?_eq_getElem hj] at this

theorem copy0 {α : Type} {z : α} {xs ys : List α} {i : Nat} (h : ys.length = xs.length) (hi : i < xs.length) (hc : ∀ j, j < i → ys.getD j z = xs.getD j z) : ∀ j, j < i + 1 → (ys.set i (xs.getD i z)).getD j z = xs.getD j z := by
  intro j hj
  simp only [List.getD_eq_getElem?_getD, List.getElem?_set] at hc ⊢
  by_cases e : i = j
  · subst e; simp [h, hi]
  · rw [if_neg e]; exact hc j (by omega)
theorem copy_end {α : Type} {z : α} {xs ys : List α} (h : ys.length = xs.length) (hc : ∀ j, j < xs.length → ys.getD j z = xs.getD j z) : ys = xs := by
  apply List.ext_getElem h
  intro j h1 h2
  have := hc j h2
  simpa [List.getD_eq_getElem?_getD, List.getElem?_eq_getElem h1, List.getElem?_eq_getElem h2] using this

theorem toI0 (xs : List Int) (hl : xs.length ≤ 1048576) : ∀ (d k i : Nat) (ys : List Int), xs.length - i = d → d < k → i ≤ xs.length → ys.length = xs.length → (∀ j, j < i → ys.getD j 0 = xs.getD j 0) → laws_toInt64S.l0 k xs ys i = some xs := by
  intro d
  induction d with
  | zero =>
    intro k i ys hd hk hi hy hc
    obtain ⟨k, rfl⟩ : ∃ m, k = m + 1 := ⟨k - 1, by omega⟩
    simp only [laws_toInt64S.l0]
    rw [if_neg (by omega), copy_end hy (fun j hj => hc j (by omega))]
  | succ d ih =>
    intro k i ys hd hk hi hy hc
    obtain ⟨k, rfl⟩ : ∃ m, k = m + 1 := ⟨k - 1, by omega⟩
    have hlt : i < xs.length := by omega
    simp only [laws_toInt64S.l0]
    rw [if_pos (by omega), if_pos (by omega), if_pos (by omega), w64s hlt (by omega), rd_nat]
    exact ih k (i + 1) _ (by omega) (by omega) (by omega) (by simpa using hy) (copy0 hy hlt hc)
theorem toI (xs : List Int) (hl : xs.length ≤ 1048576) (k : Nat) (hk : 1048578 ≤ k) : laws_toInt64S.f k xs = some xs := by
  unfold laws_toInt64S.f
  rw [if_pos (by omega), if_pos (by omega)]
  exact toI0 xs hl xs.length k 0 _ rfl (by omega) (by omega) (by simp) (fun j hj => by omega)

theorem toII0 (xs : List (List Int)) (hl : xs.length ≤ 1048576) (hq : ∀ q ∈ xs, q.length ≤ 1048576) : ∀ (d k i : Nat) (ys : List (List Int)), xs.length - i = d → d + 1048578 ≤ k → i ≤ xs.length → ys.length = xs.length → (∀ j, j < i → ys.getD j [] = xs.getD j []) → laws_toInt64SS.l0 k xs ys i = some xs := by
  intro d
  induction d with
  | zero =>
    intro k i ys hd hk hi hy hc
    obtain ⟨k, rfl⟩ : ∃ m, k = m + 1 := ⟨k - 1, by omega⟩
    simp only [laws_toInt64SS.l0]
    rw [if_neg (by omega), copy_end hy (fun j hj => hc j (by omega))]
  | succ d ih =>
    intro k i ys hd hk hi hy hc
    obtain ⟨k, rfl⟩ : ∃ m, k = m + 1 := ⟨k - 1, by omega⟩
    have hlt : i < xs.length := by omega
    simp only [laws_toInt64SS.l0]
    rw [if_pos (by omega), if_pos (by omega), rdL_nat, toI _ (hq _ (getD_mem hlt)) k (by omega)]
    simp only [Option.bind_some]
    rw [if_pos (by omega), w64s hlt (by omega)]
    exact ih k (i + 1) _ (by omega) (by omega) (by omega) (by simpa using hy) (copy0 hy hlt hc)
theorem toBundle (xs : List (List Int)) (hl : xs.length ≤ 1048576) (hq : ∀ q ∈ xs, q.length ≤ 1048576) (k : Nat) (hk : 2097156 ≤ k) : laws_toBundle.f k xs = some xs := by
  unfold laws_toBundle.f laws_toInt64SS.f
  rw [if_pos (by omega), if_pos (by omega)]
  rw [show (0 : Int) = ((0 : Nat) : Int) from rfl, toII0 xs hl hq xs.length k 0 _ rfl (by omega) (by omega) (by simp) (fun j hj => by omega)]
  rfl

theorem eqI0 (xs : List Int) (hl : xs.length ≤ 1048576) : ∀ (d k i : Nat), xs.length - i = d → d < k → i ≤ xs.length → laws_eqInt64S.l0 k xs xs i = some true := by
  intro d
  induction d with
  | zero =>
    intro k i hd hk hi
    obtain ⟨k, rfl⟩ : ∃ m, k = m + 1 := ⟨k - 1, by omega⟩
    simp only [laws_eqInt64S.l0]
    rw [if_neg (by omega)]
  | succ d ih =>
    intro k i hd hk hi
    obtain ⟨k, rfl⟩ : ∃ m, k = m + 1 := ⟨k - 1, by omega⟩
    simp only [laws_eqInt64S.l0]
    rw [if_pos (by omega), if_pos (by omega), if_pos (by omega), if_pos trivial, w64s (show i < xs.length by omega) (by omega)]
    exact ih k (i + 1) (by omega) (by omega) (by omega)
theorem eqI (xs : List Int) (hl : xs.length ≤ 1048576) (k : Nat) (hk : 1048578 ≤ k) : laws_eqInt64S.f k xs xs = some true := by
  unfold laws_eqInt64S.f
  rw [if_pos rfl]
  exact eqI0 xs hl xs.length k 0 rfl (by omega) (by omega)
theorem eqII0 (xs : List (List Int)) (hl : xs.length ≤ 1048576) (hq : ∀ q ∈ xs, q.length ≤ 1048576) : ∀ (d k i : Nat), xs.length - i = d → d + 1048578 ≤ k → i ≤ xs.length → laws_eqInt64SS.l0 k xs xs i = some true := by
  intro d
  induction d with
  | zero =>
    intro k i hd hk hi
    obtain ⟨k, rfl⟩ : ∃ m, k = m + 1 := ⟨k - 1, by omega⟩
    simp only [laws_eqInt64SS.l0]
    rw [if_neg (by omega)]
  | succ d ih =>
    intro k i hd hk hi
    obtain ⟨k, rfl⟩ : ∃ m, k = m + 1 := ⟨k - 1, by omega⟩
    have hlt : i < xs.length := by omega
    simp only [laws_eqInt64SS.l0]
    rw [if_pos (by omega), if_pos (by omega), if_pos (by omega), rdL_nat, eqI _ (hq _ (getD_mem hlt)) k (by omega)]
    simp only [Option.bind_some, if_true]
    rw [w64s hlt (by omega)]
    exact ih k (i + 1) (by omega) (by omega) (by omega)
theorem eqBundle (xs : List (List Int)) (hl : xs.length ≤ 1048576) (hq : ∀ q ∈ xs, q.length ≤ 1048576) (k : Nat) (hk : 2097156 ≤ k) : laws_eqBundle.f k xs xs = some true := by
  unfold laws_eqBundle.f laws_eqInt64SS.f
  rw [if_pos rfl, show (0 : Int) = ((0 : Nat) : Int) from rfl, eqII0 xs hl hq xs.length k 0 rfl (by omega) (by omega)]
  rfl
end Go.Proofs.Ytaapbnhggfmlpaa.B
