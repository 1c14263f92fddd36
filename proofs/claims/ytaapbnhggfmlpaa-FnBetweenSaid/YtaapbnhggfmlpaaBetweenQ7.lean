/- The law FnBetween holds for every input: the best order between two ends begins and ends with them, no drawn order with these ends has a lesser coupling, and the best of all ends is the best order. -/
import Derived.Test.YtaapbnhggfmlpaaBetweenQ4
import Derived.Test.YtaapbnhggfmlpaaBetweenQ1
import Derived.Test.YtaapbnhggfmlpaaBetweenQ2
import Derived.Laws.BitsLemmas
import Derived.Test.YtaapbnhggfmlpaaBetweenQ5
import Derived.Test.YtaapbnhggfmlpaaBetweenQ6
import Derived.Test.YtaapbnhggfmlpaaRows
import Derived.WalkKit
import Derived.ProofKit
import Derived.OpenShut
import Derived.ShutString
import Derived.ChangeOld
import Derived.Below
import Derived.SizedLaws
import Derived.Test.YtaapbnhggfmlpaaWSized
section
set_option linter.unusedVariables false
namespace Go.Proofs.Ytaapbnhggfmlpaa.A
open Go.RowKit Go.Proofs.Ytaapbnhggfmlpaa.P Go.Proofs.YtaapbnhggfmlpaaW.PrintWords Go.Proofs.Ytaapbnhggfmlpaa.M
open Go.Proofs.Ytaapbnhggfmlpaa.B (Valid Wt)
/-- x is the least of the numbers with P, or -1 if there is none. -/
def IsMin (P : Int → Prop) (x : Int) : Prop := (x = -1 ∧ ∀ c, ¬ P c) ∨ (0 ≤ x ∧ P x ∧ ∀ c, P c → x ≤ c)
theorem IsMin.unique {P : Int → Prop} {x y : Int} (h : IsMin P x) (k : IsMin P y) : x = y := by
  rcases h with ⟨rfl, h⟩ | ⟨h0, h1, h2⟩ <;> rcases k with ⟨rfl, k⟩ | ⟨k0, k1, k2⟩
  · rfl
  · exact absurd k1 (h _)
  · exact absurd h1 (k _)
  · have := h2 _ k1
    have := k2 _ h1
    omega
theorem IsMin.congr {P Q : Int → Prop} {x : Int} (h : IsMin P x) (e : ∀ c, P c ↔ Q c) : IsMin Q x := by
  rcases h with ⟨rfl, h⟩ | ⟨h0, h1, h2⟩
  · exact .inl ⟨rfl, fun c hc => h c ((e c).2 hc)⟩
  · exact .inr ⟨h0, (e _).1 h1, fun c hc => h2 c ((e c).2 hc)⟩
theorem IsMin.none {P : Int → Prop} {x : Int} (h : IsMin P x) (hn : ∀ c, ¬ P c) : x = -1 := by
  rcases h with ⟨rfl, _⟩ | ⟨_, h1, _⟩
  · rfl
  · exact absurd h1 (hn _)
theorem IsMin.of_neg {P : Int → Prop} {x : Int} (h : IsMin P x) (hx : x < 0) : ∀ c, ¬ P c := by
  rcases h with ⟨_, h⟩ | ⟨h0, _⟩
  · exact h
  · omega
theorem IsMin.mem {P : Int → Prop} {x : Int} (h : IsMin P x) (hx : 0 ≤ x) : P x := by
  rcases h with ⟨rfl, _⟩ | ⟨_, h1, _⟩
  · omega
  · exact h1
theorem IsMin.le {P : Int → Prop} {x : Int} (h : IsMin P x) {c : Int} (hc : P c) : 0 ≤ x ∧ x ≤ c := by
  rcases h with ⟨_, h⟩ | ⟨h0, _, h2⟩
  · exact absurd hc (h c)
  · exact ⟨h0, h2 c hc⟩
/-- A way to complete an order: the wires that follow, each with or without a shield ahead of it, and the coupling. -/
inductive Cmp (n : Nat) (W : Nat → Nat → Int) (fin : Int) : Nat → Nat → Nat → List (Nat × Bool) → Int → Prop
  | done {L : Nat} : (fin < 0 ∨ (L : Int) = fin) → Cmp n W fin (2 ^ n - 1) L 0 [] 0
  | step {D L S i : Nat} {p : List (Nat × Bool)} {c : Int} : i < n → D.testBit i = false → Cmp n W fin (D ||| 2 ^ i) i S p c → Cmp n W fin D L S ((i, false) :: p) (W L i + c)
  | hop {D L S i : Nat} {p : List (Nat × Bool)} {c : Int} : i < n → D.testBit i = false → Cmp n W fin (D ||| 2 ^ i) i S p c → Cmp n W fin D L (S + 1) ((i, true) :: p) c
section
variable {l : List (List Int)} {fin : Int}
theorem Cmp.len {n : Nat} {W : Nat → Nat → Int} {D L S : Nat} {p : List (Nat × Bool)} {c : Int} (h : Cmp n W fin D L S p c) : p.length = ucnt n D := by
  induction h with
  | done _ => exact ((ucnt_zero n (2 ^ n - 1) (by have := Nat.one_le_two_pow (n := n); omega)).2 rfl).symm
  | @step D L S i p c hi hb _ ih =>
    have := ucnt_or n D i hb
    rw [if_pos hi] at this
    simp [ih]; omega
  | @hop D L S i p c hi hb _ ih =>
    have := ucnt_or n D i hb
    rw [if_pos hi] at this
    simp [ih]; omega
theorem Cmp.bound (V : Valid l) {D L S : Nat} {p : List (Nat × Bool)} {c : Int} (h : Cmp l.length (Wt l) fin D L S p c) (hL : L < l.length) : 0 ≤ c ∧ c ≤ 1000 * p.length := by
  induction h with
  | done _ => simp
  | @step D L S i p c hi hb _ ih =>
    have h1 := ih hi
    have h2 := V.bound L i hL hi
    simp only [List.length_cons]
    push_cast
    omega
  | @hop D L S i p c hi hb _ ih =>
    have h1 := ih hi
    simp only [List.length_cons]
    push_cast
    omega
/-- A wire that has a place does not follow. -/
theorem Cmp.not_mem {n : Nat} {W : Nat → Nat → Int} {D L S : Nat} {p : List (Nat × Bool)} {c : Int} (h : Cmp n W fin D L S p c) : ∀ j, D.testBit j = true → ∀ x ∈ p, x.1 ≠ j := by
  induction h with
  | done _ => intro j _ x hx; cases hx
  | @step D L S i p c hi hb _ ih =>
    intro j hj x hx
    rcases List.mem_cons.1 hx with rfl | hx
    · rintro rfl
      rw [hb] at hj
      cases hj
    · exact ih j (by rw [testBit_or_pow, hj]; rfl) x hx
  | @hop D L S i p c hi hb _ ih =>
    intro j hj x hx
    rcases List.mem_cons.1 hx with rfl | hx
    · rintro rfl
      rw [hb] at hj
      cases hj
    · exact ih j (by rw [testBit_or_pow, hj]; rfl) x hx
/-- The last wire is the one that is asked for. -/
theorem Cmp.last {n : Nat} {W : Nat → Nat → Int} {D L S : Nat} {p : List (Nat × Bool)} {c : Int} (h : Cmp n W fin D L S p c) (hf : 0 ≤ fin) : (((p.map Prod.fst).getLastD L : Nat) : Int) = fin := by
  induction h with
  | done h =>
    rcases h with h | h
    · omega
    · exact h
  | @step D L S i p c hi hb _ ih => rw [List.map_cons, List.getLastD_cons]; exact ih
  | @hop D L S i p c hi hb _ ih => rw [List.map_cons, List.getLastD_cons]; exact ih
theorem getLastD_mem {α : Type} : ∀ (xs : List α) (a : α), xs ≠ [] → xs.getLastD a ∈ xs := by
  intro xs
  induction xs with
  | nil => exact fun a h => absurd rfl h
  | cons x xs ih =>
    intro a _
    rw [List.getLastD_cons]
    by_cases h : xs = []
    · subst h; simp
    · exact List.mem_cons_of_mem _ (ih x h)
/-- What the planner passes by cannot be completed. -/
theorem Cmp.pruned {n : Nat} {W : Nat → Nat → Int} {D S i : Nat} {p : List (Nat × Bool)} {c : Int} (hn : n ≤ 9) (hD : D < 2 ^ n) (hi : i < n) (hf : 0 ≤ fin) (hs : ((i : Int) == fin) ≠ (setb D i == full n)) : ¬ Cmp n W fin (D ||| 2 ^ i) i S p c := by
  intro h
  have hl := h.last hf
  have h9 := pow9 hn
  have e : (setb D i == full n) = decide (D ||| 2 ^ i = 2 ^ n - 1) := by
    rw [setb_nat D i (by omega) (by omega), full_nat n hn, Bool.eq_iff_iff, beq_iff_eq, decide_eq_true_eq]
    omega
  rw [e] at hs
  have hlt := or_lt hD hi
  by_cases hfull : D ||| 2 ^ i = 2 ^ n - 1
  · have hp := h.len
    rw [(ucnt_zero n _ hlt).2 hfull] at hp
    have : p = [] := List.eq_nil_of_length_eq_zero hp
    subst this
    simp at hl
    rw [decide_eq_true hfull, hl] at hs
    simp at hs
  · have hp := h.len
    have hne : ucnt n (D ||| 2 ^ i) ≠ 0 := fun e => hfull ((ucnt_zero n _ hlt).1 e)
    have hpn : p.map Prod.fst ≠ [] := by
      intro e
      have := congrArg List.length e
      simp at this
      subst this
      simp at hp
      omega
    have hm := getLastD_mem (p.map Prod.fst) i hpn
    obtain ⟨x, hx, hx2⟩ := List.mem_map.1 hm
    rw [decide_eq_false hfull] at hs
    have hfi : (i : Int) = fin := by
      by_cases e : (i : Int) = fin
      · exact e
      · have : ((i : Int) == fin) = false := by simpa using e
        rw [this] at hs
        exact absurd rfl hs
    rw [← hfi] at hl
    have : (p.map Prod.fst).getLastD i = i := by omega
    rw [this] at hx2
    exact h.not_mem i (by rw [testBit_or_pow]; simp) x hx hx2
theorem mem_itm {D L S i : Nat} (hn : l.length ≤ 9) (hD : D < 2 ^ l.length) (hi : i < l.length) (x : Itm) :
    x ∈ itm l fin ⟨D, L, S⟩ i ↔ ¬ skipb l.length fin D i ∧ (x = ⟨i, Wt l L i, ⟨(D ||| 2 ^ i : Nat), i, S⟩⟩ ∨ ∃ S' : Nat, S = S' + 1 ∧ x = ⟨i, 0, ⟨(D ||| 2 ^ i : Nat), i, S'⟩⟩) := by
  have h9 := pow9 hn
  have e := setb_nat D i (by omega) (by omega)
  unfold itm
  by_cases hs : skipb l.length fin D i
  · rw [if_pos hs]
    simp [hs]
  · rw [if_neg hs, List.mem_cons]
    simp only [e]
    constructor
    · rintro (rfl | h)
      · exact ⟨hs, .inl rfl⟩
      · by_cases hS : (0 : Int) < (S : Int)
        · rw [if_pos hS] at h
          obtain rfl := List.mem_singleton.1 h
          exact ⟨hs, .inr ⟨S - 1, by omega, by rw [show ((S - 1 : Nat) : Int) = (S : Int) - 1 by omega]⟩⟩
        · rw [if_neg hS] at h
          cases h
    · rintro ⟨_, rfl | ⟨S', rfl, rfl⟩⟩
      · exact .inl rfl
      · refine .inr ?_
        rw [if_pos (by omega)]
        simp
theorem skipb_nat {n D i : Nat} (hn : n ≤ 9) (hD : D < 2 ^ n) : skipb n fin D i ↔ D.testBit i = true ∨ (0 ≤ fin ∧ ((i : Int) == fin) ≠ (setb D i == full n)) := by
  unfold skipb
  have h9 := pow9 hn
  rw [tst_nat D i (by omega)]
theorem mem_itms {D L S : Nat} (hn : l.length ≤ 9) (hD : D < 2 ^ l.length) (x : Itm) :
    x ∈ itms l fin ⟨D, L, S⟩ l.length ↔ ∃ i, i < l.length ∧ ¬ skipb l.length fin D i ∧ (x = ⟨i, Wt l L i, ⟨(D ||| 2 ^ i : Nat), i, S⟩⟩ ∨ ∃ S' : Nat, S = S' + 1 ∧ x = ⟨i, 0, ⟨(D ||| 2 ^ i : Nat), i, S'⟩⟩) := by
  unfold itms
  rw [List.mem_flatMap]
  constructor
  · rintro ⟨i, hi, hx⟩
    have hi := List.mem_range.1 hi
    exact ⟨i, hi, (mem_itm hn hD hi x).1 hx⟩
  · rintro ⟨i, hi, hx⟩
    exact ⟨i, List.mem_range.2 hi, (mem_itm hn hD hi x).2 hx⟩
theorem fold_min {F : T3 → Int} {P : T3 → Int → Prop} : ∀ (xs : List Itm) (Q : Int → Prop) (a : Int), IsMin Q a → (∀ x ∈ xs, IsMin (P x.t) (F x.t)) → (∀ x ∈ xs, 0 ≤ x.c ∧ x.c ≤ 1000 ∧ ∀ c, P x.t c → 0 ≤ c ∧ c ≤ 9000) →
    IsMin (fun c => Q c ∨ ∃ x ∈ xs, ∃ c', P x.t c' ∧ c = c' + x.c) (xs.foldl (stepF F) a) := by
  intro xs
  induction xs with
  | nil => exact fun Q a h _ _ => h.congr fun c => by simp
  | cons x xs ih =>
    intro Q a h hF hb
    rw [List.foldl_cons]
    have hx := hF x (List.mem_cons_self ..)
    obtain ⟨b0, b1, b2⟩ := hb x (List.mem_cons_self ..)
    have hstep : IsMin (fun c => Q c ∨ ∃ c', P x.t c' ∧ c = c' + x.c) (stepF F a x) := by
      rcases hx with ⟨hx0, hx1⟩ | ⟨hx0, hx1, hx2⟩
      · have e : stepF F a x = a := if_neg (by omega)
        rw [e]
        exact h.congr fun c => ⟨.inl, fun h => h.elim id fun ⟨c', h, _⟩ => absurd h (hx1 c')⟩
      · have hw : wrap64 (F x.t + x.c) = F x.t + x.c := Go.IntWalk.wrap64_in _ (by have := b2 _ hx1; omega)
        unfold stepF
        rw [hw]
        rcases h with ⟨rfl, h⟩ | ⟨h0, h1, h2⟩
        · rw [if_pos ⟨hx0, .inl (by omega)⟩]
          refine .inr ⟨by omega, .inr ⟨_, hx1, rfl⟩, ?_⟩
          rintro c (hc | ⟨c', hc, rfl⟩)
          · exact absurd hc (h c)
          · have := hx2 c' hc
            omega
        · by_cases hlt : F x.t + x.c < a
          · rw [if_pos ⟨hx0, .inr hlt⟩]
            refine .inr ⟨by omega, .inr ⟨_, hx1, rfl⟩, ?_⟩
            rintro c (hc | ⟨c', hc, rfl⟩)
            · have := h2 c hc
              omega
            · have := hx2 c' hc
              omega
          · rw [if_neg (by omega)]
            refine .inr ⟨h0, .inl h1, ?_⟩
            rintro c (hc | ⟨c', hc, rfl⟩)
            · exact h2 c hc
            · have := hx2 c' hc
              omega
    refine (ih _ _ hstep (fun y hy => hF y (List.mem_cons_of_mem _ hy)) (fun y hy => hb y (List.mem_cons_of_mem _ hy))).congr fun c => ?_
    constructor
    · rintro ((a | ⟨c', h⟩) | ⟨y, hy, h⟩)
      · exact .inl a
      · exact .inr ⟨x, List.mem_cons_self .., c', h⟩
      · exact .inr ⟨y, List.mem_cons_of_mem _ hy, h⟩
    · rintro (a | ⟨y, hy, h⟩)
      · exact .inl (.inl a)
      · rcases List.mem_cons.1 hy with rfl | hy
        · exact .inl (.inr h)
        · exact .inr ⟨y, hy, h⟩
/-- The tasks that are told as numbers. -/
def CT (l : List (List Int)) (fin : Int) (t : T3) (c : Int) : Prop := ∃ p, Cmp l.length (Wt l) fin t.d.toNat t.l.toNat t.s.toNat p c
theorem lf_min (V : Valid l) : ∀ (k : Nat) (t : T3), tcnt l.length t = k → Tk l.length t → IsMin (CT l fin t) (lf l fin t) := by
  have hn := V.le
  intro k
  induction k using Nat.strongRecOn with
  | _ k ih =>
    intro t hk ht
    have ht0 := ht
    obtain ⟨D, L, S, rfl, hD, hL, hS⟩ := ht
    have h9 := pow9 hn
    have hfn := full_nat _ hn
    by_cases hd : (D : Int) = full l.length
    · have hDf : D = 2 ^ l.length - 1 := by rw [hfn] at hd; omega
      rw [lf_full (l := l) (fin := fin) (t := ⟨D, L, S⟩) hd]
      have hp : ∀ c, CT l fin ⟨D, L, S⟩ c ↔ S = 0 ∧ (fin < 0 ∨ (L : Int) = fin) ∧ c = 0 := by
        intro c
        constructor
        · rintro ⟨p, hp⟩
          have hlen := hp.len
          simp only [Int.toNat_natCast] at hp hlen
          rw [(ucnt_zero _ _ hD).2 hDf] at hlen
          have : p = [] := List.eq_nil_of_length_eq_zero hlen
          subst this
          generalize hS' : S = S2 at hp
          cases hp with
          | done h => exact ⟨hS'.symm ▸ rfl, h, rfl⟩
        · rintro ⟨rfl, h, rfl⟩
          refine ⟨[], ?_⟩
          simp only [Int.toNat_natCast, hDf]
          exact Cmp.done h
      refine IsMin.congr ?_ fun c => (hp c).symm
      unfold baseF
      by_cases hc : 0 < (S : Int) ∨ (0 ≤ fin ∧ (L : Int) ≠ fin)
      · rw [if_pos hc]
        refine .inl ⟨rfl, ?_⟩
        rintro c ⟨h1, h2, _⟩
        rcases hc with hc | hc
        · omega
        · rcases h2 with h2 | h2
          · omega
          · exact hc.2 h2
      · rw [if_neg hc]
        refine .inr ⟨Int.le_refl _, ⟨by omega, ?_, rfl⟩, fun c h => by omega⟩
        by_cases h : fin < 0
        · exact .inl h
        · exact .inr (Classical.byContradiction fun h2 => hc (.inr ⟨by omega, h2⟩))
    · rw [lf_eq hn ht0 hd]
      have hok := itms_ok (fin := fin) hn ht0
      have hDne : D ≠ 2 ^ l.length - 1 := fun e => hd (by rw [hfn, ← e])
      refine (fold_min (P := CT l fin) (itms l fin ⟨D, L, S⟩ l.length) (fun _ => False) (-1) (.inl ⟨rfl, fun _ h => h⟩) ?_ ?_).congr fun c => ?_
      · intro x hx
        obtain ⟨h1, h2, _⟩ := hok x hx
        exact ih (tcnt l.length x.t) (by omega) x.t rfl h1
      · intro x hx
        obtain ⟨i, hi, hns, hx2⟩ := (mem_itms hn hD x).1 hx
        have hb : ∀ c, CT l fin x.t c → 0 ≤ c ∧ c ≤ 9000 := by
          rintro c ⟨p, hp⟩
          have h1 := hp.len
          have h2 := ucnt_le l.length x.t.d.toNat
          have h3 := hp.bound V (by rcases hx2 with rfl | ⟨S', _, rfl⟩ <;> simpa using hi)
          omega
        rcases hx2 with rfl | ⟨S', _, rfl⟩
        · have := V.bound L i hL hi
          exact ⟨this.1, this.2, hb⟩
        · exact ⟨by simp, by simp, hb⟩
      · constructor
        · rintro (h | ⟨x, hx, c', ⟨p, hp⟩, rfl⟩)
          · exact h.elim
          · obtain ⟨i, hi, hns, hx2⟩ := (mem_itms hn hD x).1 hx
            rw [skipb_nat hn hD] at hns
            have hbit : D.testBit i = false := by
              cases hb : D.testBit i
              · rfl
              · exact absurd (.inl hb) hns
            rcases hx2 with rfl | ⟨S', rfl, rfl⟩
            · simp only [Int.toNat_natCast] at hp
              refine ⟨(i, false) :: p, ?_⟩
              simp only [Int.toNat_natCast]
              rw [Int.add_comm]
              exact .step hi hbit hp
            · simp only [Int.toNat_natCast] at hp
              refine ⟨(i, true) :: p, ?_⟩
              simp only [Int.toNat_natCast, Int.add_zero]
              exact .hop hi hbit hp
        · rintro ⟨p, hp⟩
          simp only [Int.toNat_natCast] at hp
          refine .inr ?_
          generalize hS' : S = S2 at hp
          cases hp with
          | done h => exact absurd rfl hDne
          | @step _ _ _ i p c hi hbit h =>
            subst hS'
            refine ⟨⟨i, Wt l L i, ⟨(D ||| 2 ^ i : Nat), i, S⟩⟩, (mem_itms hn hD _).2 ⟨i, hi, ?_, .inl rfl⟩, c, ⟨p, by simpa using h⟩, by simp [Int.add_comm]⟩
            rw [skipb_nat hn hD]
            rintro (h1 | ⟨h1, h2⟩)
            · rw [hbit] at h1; cases h1
            · exact Cmp.pruned hn hD hi h1 h2 h
          | @hop _ _ S' i p c hi hbit h =>
            subst hS'
            refine ⟨⟨i, 0, ⟨(D ||| 2 ^ i : Nat), i, S'⟩⟩, (mem_itms hn hD _).2 ⟨i, hi, ?_, .inr ⟨S', rfl, rfl⟩⟩, c, ⟨p, by simpa using h⟩, by simp⟩
            rw [skipb_nat hn hD]
            rintro (h1 | ⟨h1, h2⟩)
            · rw [hbit] at h1; cases h1
            · exact Cmp.pruned hn hD hi h1 h2 h
end
end Go.Proofs.Ytaapbnhggfmlpaa.A
end
section
set_option linter.unusedVariables false
namespace Go.Proofs.Ytaapbnhggfmlpaa.A
open Go.RowKit Go.Proofs.Ytaapbnhggfmlpaa.P Go.Proofs.YtaapbnhggfmlpaaW.PrintWords Go.Proofs.Ytaapbnhggfmlpaa.M
open Go.Proofs.Ytaapbnhggfmlpaa.B (Valid Wt up up_length)
def lexLE : List Nat → List Nat → Prop
  | [], _ => True
  | _ :: _, [] => False
  | a :: as_, b :: bs => a < b ∨ (a = b ∧ lexLE as_ bs)
/-- The coupling along a way, by whether a shield stands ahead of each wire. -/
def pathC (W : Nat → Nat → Int) : Nat → List (Nat × Bool) → Int
  | _, [] => 0
  | a, (i, b) :: p => (if b = true then 0 else W a i) + pathC W i p
def trues (p : List (Nat × Bool)) : Nat := (p.filter fun x => x.2).length
theorem Cmp.cost {n : Nat} {W : Nat → Nat → Int} {fin : Int} {D L S : Nat} {p : List (Nat × Bool)} {c : Int} (h : Cmp n W fin D L S p c) : c = pathC W L p ∧ S = trues p := by
  induction h with
  | done _ => exact ⟨rfl, rfl⟩
  | @step D L S i p c hi hb _ ih => exact ⟨by simp [pathC, ih.1], by simp [trues] at ih ⊢; exact ih.2⟩
  | @hop D L S i p c hi hb _ ih => exact ⟨by simp [pathC, ih.1], by simp [trues] at ih ⊢; exact ih.2⟩
theorem Cmp.nodup {n : Nat} {W : Nat → Nat → Int} {fin : Int} {D L S : Nat} {p : List (Nat × Bool)} {c : Int} (h : Cmp n W fin D L S p c) : (p.map Prod.fst).Nodup ∧ ∀ i ∈ p.map Prod.fst, i < n ∧ D.testBit i = false := by
  induction h with
  | done _ => exact ⟨List.nodup_nil, fun i hi => by cases hi⟩
  | @step D L S i p c hi hb h ih =>
    refine ⟨List.nodup_cons.2 ⟨fun hm => ?_, ih.1⟩, fun j hj => ?_⟩
    · have := (ih.2 i hm).2
      rw [testBit_or_pow] at this
      simp at this
    · rcases List.mem_cons.1 hj with rfl | hj
      · exact ⟨hi, hb⟩
      · have := ih.2 j hj
        rw [testBit_or_pow] at this
        simp at this
        exact ⟨this.1, this.2.1⟩
  | @hop D L S i p c hi hb h ih =>
    refine ⟨List.nodup_cons.2 ⟨fun hm => ?_, ih.1⟩, fun j hj => ?_⟩
    · have := (ih.2 i hm).2
      rw [testBit_or_pow] at this
      simp at this
    · rcases List.mem_cons.1 hj with rfl | hj
      · exact ⟨hi, hb⟩
      · have := ih.2 j hj
        rw [testBit_or_pow] at this
        simp at this
        exact ⟨this.1, this.2.1⟩
theorem Cmp.of {n : Nat} {W : Nat → Nat → Int} {fin : Int} : ∀ (p : List (Nat × Bool)) (D L : Nat), D < 2 ^ n → (p.map Prod.fst).Nodup → (∀ i ∈ p.map Prod.fst, i < n ∧ D.testBit i = false) → p.length = ucnt n D → (fin < 0 ∨ (((p.map Prod.fst).getLastD L : Nat) : Int) = fin) → Cmp n W fin D L (trues p) p (pathC W L p) := by
  intro p
  induction p with
  | nil =>
    intro D L hD _ _ hl hf
    have : D = 2 ^ n - 1 := (ucnt_zero n D hD).1 hl.symm
    subst this
    exact .done hf
  | cons x p ih =>
    intro D L hD hn hm hl hf
    obtain ⟨i, b⟩ := x
    rw [List.map_cons] at hn hm
    obtain ⟨hn1, hn2⟩ := List.nodup_cons.1 hn
    obtain ⟨hi, hb⟩ := hm i (List.mem_cons_self ..)
    have hc := ucnt_or n D i hb
    rw [if_pos hi] at hc
    have h := ih (D ||| 2 ^ i) i (or_lt hD hi) hn2 (fun j hj => ⟨(hm j (List.mem_cons_of_mem _ hj)).1, by
      rw [testBit_or_pow, (hm j (List.mem_cons_of_mem _ hj)).2]
      simp
      rintro rfl
      exact hn1 hj⟩) (by simp at hl; omega) (by
      rw [List.map_cons, List.getLastD_cons] at hf
      exact hf)
    cases b with
    | false =>
      have e : trues ((i, false) :: p) = trues p := by simp [trues]
      have e2 : pathC W L ((i, false) :: p) = W L i + pathC W i p := by simp [pathC]
      rw [e, e2]
      exact .step hi hb h
    | true =>
      have e : trues ((i, true) :: p) = trues p + 1 := by simp [trues]
      have e2 : pathC W L ((i, true) :: p) = pathC W i p := by simp [pathC]
      rw [e, e2]
      exact .hop hi hb h
section
variable {l : List (List Int)} {fin : Int}
theorem cmp_item (V : Valid l) {D L S : Nat} (hD : D < 2 ^ l.length) {p : List (Nat × Bool)} {c : Int} (h : Cmp l.length (Wt l) fin D L S p c) (hp : D ≠ 2 ^ l.length - 1) :
    ∃ x ∈ itms l fin ⟨D, L, S⟩ l.length, ∃ b q c', p = (x.w, b) :: q ∧ c = c' + x.c ∧ Cmp l.length (Wt l) fin x.t.d.toNat x.t.l.toNat x.t.s.toNat q c' := by
  have hn := V.le
  cases h with
  | done h => exact absurd rfl hp
  | @step _ _ _ i p c hi hbit h =>
    refine ⟨⟨i, Wt l L i, ⟨(D ||| 2 ^ i : Nat), i, S⟩⟩, (mem_itms hn hD _).2 ⟨i, hi, ?_, .inl rfl⟩, false, p, c, rfl, Int.add_comm .., by simpa using h⟩
    rw [skipb_nat hn hD]
    rintro (h1 | ⟨h1, h2⟩)
    · rw [hbit] at h1; cases h1
    · exact Cmp.pruned hn hD hi h1 h2 h
  | @hop _ _ S' i p c hi hbit h =>
    refine ⟨⟨i, 0, ⟨(D ||| 2 ^ i : Nat), i, S'⟩⟩, (mem_itms hn hD _).2 ⟨i, hi, ?_, .inr ⟨S', rfl, rfl⟩⟩, true, p, c, rfl, by simp, by simpa using h⟩
    rw [skipb_nat hn hD]
    rintro (h1 | ⟨h1, h2⟩)
    · rw [hbit] at h1; cases h1
    · exact Cmp.pruned hn hD hi h1 h2 h
theorem item_cmp (V : Valid l) {D L S : Nat} (hD : D < 2 ^ l.length) {x : Itm} (hx : x ∈ itms l fin ⟨D, L, S⟩ l.length) {q : List (Nat × Bool)} {c : Int} (h : Cmp l.length (Wt l) fin x.t.d.toNat x.t.l.toNat x.t.s.toNat q c) :
    ∃ b, Cmp l.length (Wt l) fin D L S ((x.w, b) :: q) (c + x.c) := by
  have hn := V.le
  obtain ⟨i, hi, hns, hx2⟩ := (mem_itms hn hD x).1 hx
  rw [skipb_nat hn hD] at hns
  have hbit : D.testBit i = false := by
    cases hb : D.testBit i
    · rfl
    · exact absurd (.inl hb) hns
  rcases hx2 with rfl | ⟨S', rfl, rfl⟩
  · simp only [Int.toNat_natCast] at h
    refine ⟨false, ?_⟩
    rw [Int.add_comm]
    exact .step hi hbit h
  · simp only [Int.toNat_natCast] at h
    refine ⟨true, ?_⟩
    simp only [Int.add_zero]
    exact .hop hi hbit h
theorem item_c (V : Valid l) {D L S : Nat} (hD : D < 2 ^ l.length) (hL : L < l.length) {x : Itm} (hx : x ∈ itms l fin ⟨D, L, S⟩ l.length) : 0 ≤ x.c ∧ x.c ≤ 1000 := by
  obtain ⟨i, hi, hns, rfl | ⟨S', _, rfl⟩⟩ := (mem_itms V.le hD x).1 hx
  · exact V.bound L i hL hi
  · simp
theorem lf_bd (V : Valid l) {t : T3} (ht : Tk l.length t) : -1 ≤ lf l fin t ∧ lf l fin t ≤ 9000 := by
  rcases lf_min (fin := fin) V _ t rfl ht with ⟨h, _⟩ | ⟨h0, ⟨p, hp⟩, _⟩
  · omega
  · obtain ⟨D, L, S, rfl, hD, hL, hS⟩ := ht
    have h1 := hp.len
    have h2 := ucnt_le l.length D
    have h3 := hp.bound V (by simpa using hL)
    simp only [Int.toNat_natCast] at h1
    have := V.le
    omega
theorem gw_iff (V : Valid l) {D L S : Nat} (hD : D < 2 ^ l.length) (hL : L < l.length) (hS : S ≤ 9) {x : Itm} (hx : x ∈ itms l fin ⟨D, L, S⟩ l.length) (want : Int) : Gw l fin want x ↔ 0 ≤ lf l fin x.t ∧ lf l fin x.t + x.c = want := by
  have h1 := item_c V hD hL hx
  have h2 := lf_bd (fin := fin) V (itms_ok V.le (t := ⟨D, L, S⟩) ⟨D, L, S, rfl, hD, hL, hS⟩ x hx).1
  unfold Gw
  rw [Go.IntWalk.wrap64_in _ ⟨by omega, by omega⟩]
theorem ordR_best (V : Valid l) : ∀ (d k : Nat) (ks : List T3) (out : List Int), ks ≠ [] → (∀ t ∈ ks, Tk l.length t ∧ 0 ≤ lf l fin t ∧ tcnt l.length t = d) → out.length + d = l.length → d ≤ k →
    ∃ t ∈ ks, ∃ p, Cmp l.length (Wt l) fin t.d.toNat t.l.toNat t.s.toNat p (lf l fin t) ∧ ordR l fin k ks out = out ++ up (p.map Prod.fst) ∧
      ∀ t' ∈ ks, ∀ p', Cmp l.length (Wt l) fin t'.d.toNat t'.l.toNat t'.s.toNat p' (lf l fin t') → lexLE (p.map Prod.fst) (p'.map Prod.fst) := by
  have hn := V.le
  intro d
  induction d with
  | zero =>
    intro k ks out hne hks hlen hk
    obtain ⟨t, ht⟩ := List.exists_mem_of_ne_nil ks hne
    obtain ⟨h1, h2, h3⟩ := hks t ht
    obtain ⟨p, hp⟩ := (lf_min (fin := fin) V _ t rfl h1).mem h2
    have hl := hp.len
    unfold tcnt at h3
    rw [h3] at hl
    have : p = [] := List.eq_nil_of_length_eq_zero hl
    subst this
    refine ⟨t, ht, [], hp, ?_, fun t' _ p' _ => trivial⟩
    rw [show ordR l fin k ks out = out from by cases k <;> simp [ordR, show ¬ out.length < l.length by omega]]
    simp [up]
  | succ d ih =>
    intro k ks out hne hks hlen hk
    obtain ⟨k, rfl⟩ : ∃ m, k = m + 1 := ⟨k - 1, by omega⟩
    have hkt : ∀ t ∈ ks, Tk l.length t := fun t ht => (hks t ht).1
    have hnx := nextF_nx (fin := fin) hn hkt
    have hdf : ∀ t ∈ ks, t.d.toNat < 2 ^ l.length ∧ t.d.toNat ≠ 2 ^ l.length - 1 := by
      intro t ht
      obtain ⟨D, L, S, rfl, hD, hL, hS⟩ := hkt t ht
      refine ⟨hD, fun e => ?_⟩
      have h3 : ucnt l.length D = d + 1 := (hks _ ht).2.2
      rw [(ucnt_zero _ _ hD).2 e] at h3
      omega
    -- a way of the least coupling leads on by a good item
    have hgood : ∀ t ∈ ks, ∀ p, Cmp l.length (Wt l) fin t.d.toNat t.l.toNat t.s.toNat p (lf l fin t) → ∃ x, x ∈ itms l fin t l.length ∧ Gw l fin (lf l fin t) x ∧ ∃ b q, p = (x.w, b) :: q ∧ Cmp l.length (Wt l) fin x.t.d.toNat x.t.l.toNat x.t.s.toNat q (lf l fin x.t) := by
      intro t ht p hp
      have h1 := hdf t ht
      have h0 := hkt t ht
      obtain ⟨D, L, S, rfl, hD, hL, hS⟩ := hkt t ht
      simp only [Int.toNat_natCast] at hp h1
      obtain ⟨x, hx, b, q, c', rfl, hc, hq⟩ := cmp_item V hD hp h1.2
      have hxt := (itms_ok hn h0 x hx).1
      have hle := (lf_min (fin := fin) V _ x.t rfl hxt).le ⟨q, hq⟩
      obtain ⟨q', hq'⟩ := (lf_min (fin := fin) V _ x.t rfl hxt).mem hle.1
      obtain ⟨b', hb'⟩ := item_cmp V hD hx hq'
      have hle2 := (lf_min (fin := fin) V _ ⟨D, L, S⟩ rfl h0).le ⟨_, by simpa using hb'⟩
      have e : lf l fin x.t = c' := by omega
      exact ⟨x, hx, (gw_iff V hD hL hS hx _).2 ⟨hle.1, by omega⟩, b, q, rfl, by rw [e]; exact hq⟩
    have hstart : ordR l fin (k + 1) ks out = ordR l fin k (nextF l fin ks).2 (out ++ [(nextF l fin ks).1]) := by
      conv => lhs; unfold ordR
      rw [if_pos (by omega)]
    obtain ⟨t0, ht0⟩ := List.exists_mem_of_ne_nil ks hne
    obtain ⟨p0, hp0⟩ := (lf_min (fin := fin) V _ t0 rfl (hkt t0 ht0)).mem (hks t0 ht0).2.1
    obtain ⟨x0, hx0, hg0, _⟩ := hgood t0 ht0 p0 hp0
    have hlt : (nextF l fin ks).1 < l.length := by
      have h1 := hnx.min x0 ⟨t0, ht0, hx0, hg0⟩
      have h2 := hnx.lt x0 ⟨t0, ht0, hx0, hg0⟩
      omega
    obtain ⟨x1, hx1, e1⟩ := hnx.at_ hlt
    have hmem : ∀ u ∈ (nextF l fin ks).2, ∃ t ∈ ks, ∃ x, x ∈ itms l fin t l.length ∧ Gw l fin (lf l fin t) x ∧ (x.w : Int) = (nextF l fin ks).1 ∧ x.t = u := by
      intro u hu
      obtain ⟨x, ⟨t, a, b, c⟩, d, e⟩ := (hnx.mem u).1 hu
      exact ⟨t, a, x, b, c, d, e⟩
    obtain ⟨u, hu, q, hq, hr, hlex⟩ := ih k (nextF l fin ks).2 (out ++ [(nextF l fin ks).1]) (fun e => by
        have := (hnx.mem x1.t).2 ⟨x1, hx1, e1, rfl⟩
        rw [e] at this
        cases this) (by
        intro u hu
        obtain ⟨t, ht, x, hx, hg, _, rfl⟩ := hmem u hu
        have := itms_ok hn (hkt t ht) x hx
        exact ⟨this.1, hg.1, by have := (hks t ht).2.2; omega⟩) (by simp; omega) (by omega)
    obtain ⟨t, ht, x, hx, hg, hw, rfl⟩ := hmem u hu
    have hres : ordR l fin (k + 1) ks out = out ++ up (x.w :: q.map Prod.fst) := by
      rw [hstart, hr, ← hw]
      simp [up]
    have hsplit : ∃ b, Cmp l.length (Wt l) fin t.d.toNat t.l.toNat t.s.toNat ((x.w, b) :: q) (lf l fin t) := by
      have h0 := hkt t ht
      obtain ⟨D, L, S, rfl, hD, hL, hS⟩ := hkt t ht
      obtain ⟨b, hb⟩ := item_cmp V hD hx hq
      have := ((gw_iff V hD hL hS hx _).1 hg).2
      rw [this] at hb
      exact ⟨b, by simpa using hb⟩
    obtain ⟨b, hb⟩ := hsplit
    refine ⟨t, ht, (x.w, b) :: q, hb, by rw [hres]; rfl, ?_⟩
    intro t' ht' p' hp'
    obtain ⟨x', hx', hg', b', q', rfl, hq'⟩ := hgood t' ht' p' hp'
    have hmin := hnx.min x' ⟨t', ht', hx', hg'⟩
    show lexLE (x.w :: q.map Prod.fst) (x'.w :: q'.map Prod.fst)
    by_cases e : x.w = x'.w
    · exact .inr ⟨e, hlex x'.t ((hnx.mem x'.t).2 ⟨x', ⟨t', ht', hx', hg'⟩, by omega, rfl⟩) q' hq'⟩
    · exact .inl (by omega)
theorem begF_min (s : Int) (ws : List Nat) : ((begF l fin s ws).1 = -1 ∧ ∀ w ∈ ws, lf l fin (begT s w) < 0) ∨ (∃ a w b, ws = a ++ w :: b ∧ begF l fin s ws = (lf l fin (begT s w), w) ∧ 0 ≤ lf l fin (begT s w) ∧ (∀ v ∈ a, lf l fin (begT s v) < 0 ∨ lf l fin (begT s w) < lf l fin (begT s v)) ∧ ∀ v ∈ b, lf l fin (begT s v) < 0 ∨ lf l fin (begT s w) ≤ lf l fin (begT s v)) := by
  suffices h : ∀ (n : Nat), n ≤ ws.length → ((begF l fin s (ws.take n)).1 = -1 ∧ ∀ w ∈ ws.take n, lf l fin (begT s w) < 0) ∨ (∃ a w b, ws.take n = a ++ w :: b ∧ begF l fin s (ws.take n) = (lf l fin (begT s w), w) ∧ 0 ≤ lf l fin (begT s w) ∧ (∀ v ∈ a, lf l fin (begT s v) < 0 ∨ lf l fin (begT s w) < lf l fin (begT s v)) ∧ ∀ v ∈ b, lf l fin (begT s v) < 0 ∨ lf l fin (begT s w) ≤ lf l fin (begT s v)) by
    have := h ws.length (Nat.le_refl _)
    rwa [List.take_length] at this
  intro n
  induction n with
  | zero => exact fun _ => .inl ⟨by simp [begF], by simp⟩
  | succ n ih =>
    intro hn
    have hlt : n < ws.length := by omega
    have e : ws.take (n + 1) = ws.take n ++ [ws[n]] := by rw [List.take_succ_eq_append_getElem hlt]
    have e2 : begF l fin s (ws.take (n + 1)) = if 0 ≤ lf l fin (begT s ws[n]) ∧ ((begF l fin s (ws.take n)).1 < 0 ∨ lf l fin (begT s ws[n]) < (begF l fin s (ws.take n)).1) then (lf l fin (begT s ws[n]), ws[n]) else begF l fin s (ws.take n) := by
      rw [e]
      unfold begF
      rw [List.foldl_append, List.foldl_cons, List.foldl_nil]
    rw [e2, e]
    rcases ih (by omega) with ⟨h1, h2⟩ | ⟨a, w, b, h1, h2, h3, h4, h5⟩
    · by_cases hc : 0 ≤ lf l fin (begT s ws[n])
      · rw [if_pos ⟨hc, .inl (by omega)⟩]
        exact .inr ⟨ws.take n, ws[n], [], rfl, rfl, hc, fun v hv => .inl (h2 v hv), fun v hv => by cases hv⟩
      · rw [if_neg (fun h => hc h.1)]
        refine .inl ⟨h1, fun v hv => ?_⟩
        rcases List.mem_append.1 hv with hv | hv
        · exact h2 v hv
        · obtain rfl := List.mem_singleton.1 hv
          omega
    · rw [h2]
      by_cases hc : 0 ≤ lf l fin (begT s ws[n]) ∧ lf l fin (begT s ws[n]) < lf l fin (begT s w)
      · rw [if_pos ⟨hc.1, .inr hc.2⟩]
        refine .inr ⟨ws.take n, ws[n], [], rfl, rfl, hc.1, fun v hv => ?_, fun v hv => by cases hv⟩
        rw [h1] at hv
        rcases List.mem_append.1 hv with hv | hv
        · rcases h4 v hv with h | h
          · exact .inl h
          · exact .inr (by omega)
        · rcases List.mem_cons.1 hv with rfl | hv
          · exact .inr hc.2
          · rcases h5 v hv with h | h
            · exact .inl h
            · exact .inr (by omega)
      · rw [if_neg (by
          rintro ⟨h6, h7 | h7⟩
          · simp only at h7; omega
          · exact hc ⟨h6, h7⟩)]
        refine .inr ⟨a, w, b ++ [ws[n]], by rw [h1]; simp, rfl, h3, h4, fun v hv => ?_⟩
        rcases List.mem_append.1 hv with hv | hv
        · exact h5 v hv
        · obtain rfl := List.mem_singleton.1 hv
          by_cases h : 0 ≤ lf l fin (begT s ws[n])
          · exact .inr (by
              have := fun h' => hc ⟨h, h'⟩
              omega)
          · exact .inl (by omega)
theorem begT_tk (V : Valid l) {s w : Nat} (hs : s ≤ 9) (hw : w < l.length) : Tk l.length (begT s w) ∧ begT s w = ⟨(2 ^ w : Nat), w, s⟩ := by
  have hn := V.le
  have e : begT s w = ⟨(2 ^ w : Nat), w, s⟩ := by
    unfold begT
    rw [wpow w (by omega)]
  exact ⟨⟨2 ^ w, w, s, e, Nat.pow_lt_pow_right (by decide) hw, hw, hs⟩, e⟩
/-- The coupling of an order from some beginnings is the least one, and the order is the first one of these. -/
theorem orderF_best (V : Valid l) (s : Nat) (hs : s ≤ 9) (ws : List Nat) (hws : ∀ w ∈ ws, w < l.length) (hasc : ws.Pairwise (· < ·)) :
    (orderF l fin s ws = ([], 0, false) ∧ ∀ w ∈ ws, ∀ p c, ¬ Cmp l.length (Wt l) fin (2 ^ w) w s p c) ∨
    (∃ w ∈ ws, ∃ p c, orderF l fin s ws = (up (w :: p.map Prod.fst), c, true) ∧ Cmp l.length (Wt l) fin (2 ^ w) w s p c ∧
      ∀ w' ∈ ws, ∀ p' c', Cmp l.length (Wt l) fin (2 ^ w') w' s p' c' → c ≤ c' ∧ (c' = c → lexLE (w :: p.map Prod.fst) (w' :: p'.map Prod.fst))) := by
  have hmin : ∀ w, w < l.length → IsMin (fun c => ∃ p, Cmp l.length (Wt l) fin (2 ^ w) w s p c) (lf l fin (begT s w)) := by
    intro w hw
    obtain ⟨h1, h2⟩ := begT_tk V hs hw
    refine (lf_min (fin := fin) V _ _ rfl h1).congr fun c => ?_
    rw [h2]
    rfl
  unfold orderF
  rcases begF_min (l := l) (fin := fin) s ws with ⟨h1, h2⟩ | ⟨a, w, b, h1, h2, h3, h4, h5⟩
  · rw [if_pos (by omega)]
    exact .inl ⟨rfl, fun w hw p c h => (hmin w (hws w hw)).of_neg (h2 w hw) c ⟨p, h⟩⟩
  · have hw : w ∈ ws := by rw [h1]; simp
    obtain ⟨t1, t2⟩ := begT_tk V hs (hws w hw)
    rw [h2, if_neg (by simp only; omega)]
    have hc1 : tcnt l.length (begT s w) + 1 = l.length := by
      have h := ucnt_or l.length 0 w (by simp)
      rw [if_pos (hws w hw)] at h
      rw [t2]
      unfold tcnt
      simp only [Int.toNat_natCast]
      rw [Nat.zero_or] at h
      rw [h]
      have : ∀ n, ucnt n 0 = n := by
        intro n
        induction n with
        | zero => rfl
        | succ n ih => rw [ucnt_succ, ih]; simp
      exact this _
    obtain ⟨t, ht, p, hp, hr, hlex⟩ := ordR_best (fin := fin) V (tcnt l.length (begT s w)) 10 [begT s w] [(w : Int)] (by simp) (by
      intro t ht
      obtain rfl := List.mem_singleton.1 ht
      exact ⟨t1, h3, rfl⟩) (by simp; omega) (by have := V.le; omega)
    obtain rfl := List.mem_singleton.1 ht
    have hcm : ∀ (q : List (Nat × Bool)) (c : Int), Cmp l.length (Wt l) fin (begT s w).d.toNat (begT s w).l.toNat (begT s w).s.toNat q c ↔ Cmp l.length (Wt l) fin (2 ^ w) w s q c := by
      intro q c
      rw [t2]
      simp only [Int.toNat_natCast]
    refine .inr ⟨w, hw, p, lf l fin (begT s w), ?_, (hcm _ _).1 hp, ?_⟩
    · simp only
      rw [hr]
      simp [up]
    · intro w' hw' p' c' hc'
      have hle := (hmin w' (hws w' hw')).le ⟨p', hc'⟩
      have hww : lf l fin (begT s w) ≤ lf l fin (begT s w') := by
        rw [h1] at hw'
        rcases List.mem_append.1 hw' with hw' | hw'
        · rcases h4 w' hw' with h | h <;> omega
        · rcases List.mem_cons.1 hw' with rfl | hw'
          · exact Int.le_refl _
          · rcases h5 w' hw' with h | h <;> omega
      refine ⟨by omega, fun e => ?_⟩
      by_cases e2 : w = w'
      · subst e2
        refine .inr ⟨rfl, hlex _ (List.mem_singleton_self _) p' ?_⟩
        have : c' = lf l fin (begT s w) := e
        rw [← this]
        exact (hcm _ _).2 hc'
      · refine .inl ?_
        rw [h1] at hw' hasc
        rcases List.mem_append.1 hw' with hw' | hw'
        · rcases h4 w' hw' with h | h <;> omega
        · rcases List.mem_cons.1 hw' with rfl | hw'
          · exact absurd rfl e2
          · have := (List.pairwise_append.1 hasc).2.1
            exact (List.pairwise_cons.1 this).1 w' hw'
end
end Go.Proofs.Ytaapbnhggfmlpaa.A
end
section
set_option linter.unusedVariables false
namespace Go.Proofs.Ytaapbnhggfmlpaa.B
open Go.RowKit Go.Proofs.Ytaapbnhggfmlpaa.P Go.Proofs.YtaapbnhggfmlpaaW.PrintWords Go.Proofs.YtaapbnhggfmlpaaW.PrintLast Go.Proofs.YtaapbnhggfmlpaaW.PrintMore
/-- Bytes, told as whole numbers. -/
def Bytes (s : List Int) : Prop := s.length ≤ 1048576 ∧ ∀ x ∈ s, 0 ≤ x ∧ x ≤ 255
theorem bytes_of {s : List Int} (hl : s.length ≤ 1048576) (h : ∀ x ∈ s, (Lit.int .u8 x).wf = true) : Bytes s := by
  refine ⟨hl, fun x hx => ?_⟩
  have := h x hx
  simp only [Lit.wf, Bool.and_eq_true, decide_eq_true_eq, show IntKind.u8.min = 0 from rfl, show IntKind.u8.max = 255 from rfl] at this
  exact this
theorem u64_and (x : Int) : ∃ v : Int, wrap64 (Go.bits .and .u64 (IntKind.u64.wrap x / 1099511627776) 255) = v ∧ 0 ≤ v ∧ v ≤ 255 := by
  have h0 : 0 ≤ IntKind.u64.wrap x ∧ IntKind.u64.wrap x < 18446744073709551616 := by
    rw [IntKind.wrap_u64]
    omega
  obtain ⟨a, ha⟩ : ∃ a : Nat, IntKind.u64.wrap x / 1099511627776 = a := ⟨(IntKind.u64.wrap x / 1099511627776).toNat, by omega⟩
  have hlt : a < 2 ^ 24 := by omega
  rw [ha]
  clear h0 ha
  have e := (bits_nat .u64 24 (by decide) (fun n h0 h1 => by rw [IntKind.wrap_u64]; omega) a 255 hlt (by decide)).1
  rw [show ((255 : Nat) : Int) = 255 from rfl] at e
  rw [e]
  have : a &&& 255 ≤ 255 := Nat.and_le_right
  refine ⟨_, w64 (by omega), by omega, by omega⟩
theorem next_ok {s : List Int} (hs : Bytes s) (at_ sd : Int) (h0 : 0 ≤ at_) (h1 : at_ ≤ 1000000000) (k : Nat) (hk : 1 ≤ k) : ∃ v sd', spec_l00Src_next.f k s at_ sd = some (v, at_ + 1, sd') ∧ 0 ≤ v ∧ v ≤ 255 := by
  obtain ⟨k, rfl⟩ : ∃ m, k = m + 1 := ⟨k - 1, by omega⟩
  have hl := hs.1
  have main : ∀ b : Int, 0 ≤ b ∧ b ≤ 255 → ∃ v sd', spec_l00Src_next.j0 (k + 1) b s at_ sd = some (v, at_ + 1, sd') ∧ 0 ≤ v ∧ v ≤ 255 := by
    intro b hb
    simp only [spec_l00Src_next.j0]
    rw [w64 (x := at_ + 1) (by omega)]
    by_cases c : at_ + 1 ≤ (s.length : Int)
    · rw [if_pos c]
      exact ⟨_, _, rfl, hb.1, hb.2⟩
    · rw [if_neg c]
      obtain ⟨v, hv, h2, h3⟩ := u64_and (IntKind.u64.wrap (IntKind.u64.wrap (sd * 6364136223846793005) + IntKind.u64.wrap b) + 1442695040888963407)
      rw [hv]
      exact ⟨_, _, rfl, h2, h3⟩
  unfold spec_l00Src_next.f
  by_cases c : at_ < (s.length : Int)
  · rw [if_pos c, if_pos h0]
    have hr : 0 ≤ rd s at_ ∧ rd s at_ ≤ 255 := by
      obtain ⟨n, rfl⟩ : ∃ n : Nat, at_ = n := ⟨at_.toNat, by omega⟩
      rw [rd_nat]
      exact hs.2 _ (getD_mem (by omega))
    rw [w64 (by omega)]
    exact main _ hr
  · rw [if_neg c]
    exact main 0 (by omega)
theorem pick_ok {s : List Int} (hs : Bytes s) (at_ sd n : Int) (h0 : 0 ≤ at_) (h1 : at_ ≤ 100000000) (k : Nat) (hk : 1 ≤ k) : ∃ v at' sd', spec_l00Src_pick.f k s at_ sd n = some (v, at', sd') ∧ 0 ≤ v ∧ (v < n ∨ (v = 0 ∧ n ≤ 1)) ∧ 0 ≤ at' ∧ at' ≤ at_ + 2 := by
  unfold spec_l00Src_pick.f
  by_cases c : n ≤ 1
  · rw [if_pos c]
    exact ⟨0, at_, sd, rfl, by omega, .inr ⟨rfl, c⟩, h0, by omega⟩
  · rw [if_neg c]
    obtain ⟨v, sd', hv, v0, v1⟩ := next_ok hs at_ sd h0 (by omega) k hk
    rw [hv]
    simp only [Option.bind_some]
    by_cases c2 : n > 200
    · rw [if_pos c2]
      obtain ⟨v2, sd2, hv2, w0, w1⟩ := next_ok hs (at_ + 1) sd' (by omega) (by omega) k hk
      rw [hv2]
      simp only [Option.bind_some]
      rw [if_neg (by omega), w64 (x := v * 256) (by omega), w64 (by omega)]
      refine ⟨_, _, _, rfl, Int.tmod_nonneg _ (by omega), .inl (Int.tmod_lt_of_pos _ (by omega)), by omega, by omega⟩
    · rw [if_neg c2, if_neg (by omega)]
      refine ⟨_, _, _, rfl, Int.tmod_nonneg _ (by omega), .inl (Int.tmod_lt_of_pos _ (by omega)), by omega, by omega⟩
/-- A square table of weights, under way. -/
structure Sq (n : Nat) (l : List (List Int)) : Prop where
  len : l.length = n
  row : ∀ i, i < n → (l.getD i []).length = n
  bound : ∀ i j, i < n → j < n → 0 ≤ Wt l i j ∧ Wt l i j ≤ 1000
  sym : ∀ i j, i < n → j < n → Wt l i j = Wt l j i
  zero : ∀ i, i < n → Wt l i i = 0
theorem Sq.valid {n : Nat} {l : List (List Int)} (h : Sq n l) (h1 : 1 ≤ n) (h9 : n ≤ 9) : Valid l := by
  obtain ⟨rfl, h2, h3, h4, h5⟩ := h
  exact ⟨h1, h9, h2, h3, h4, h5⟩
theorem getD_set {α : Type} (l : List α) (i j : Nat) (x d : α) (hi : i < l.length) : (l.set i x).getD j d = if j = i then x else l.getD j d := by
  simp only [List.getD_eq_getElem?_getD, List.getElem?_set]
  by_cases e : i = j
  · subst e
    simp [hi]
  · rw [if_neg e, if_neg (fun h => e h.symm)]
theorem Sq.put {n : Nat} {l : List (List Int)} (h : Sq n l) {i k : Nat} {w : Int} (hi : i < n) (hk : k < i) (hw : 0 ≤ w ∧ w ≤ 1000) :
    Sq n ((l.set i ((l.getD i []).set k w)).set k (((l.set i ((l.getD i []).set k w)).getD k []).set i w)) := by
  have hl := h.len
  have hik : ¬ k = i := by omega
  have e1 : (l.set i ((l.getD i []).set k w)).getD k [] = l.getD k [] := by rw [getD_set _ _ _ _ _ (by omega), if_neg hik]
  rw [e1]
  have hrow : ∀ a, ((l.set i ((l.getD i []).set k w)).set k ((l.getD k []).set i w)).getD a [] = if a = k then (l.getD k []).set i w else if a = i then (l.getD i []).set k w else l.getD a [] := by
    intro a
    rw [getD_set _ _ _ _ _ (by rw [List.length_set]; omega), getD_set _ _ _ _ _ (by omega)]
  have hW : ∀ a b, a < n → b < n → Wt ((l.set i ((l.getD i []).set k w)).set k ((l.getD k []).set i w)) a b = if (a = i ∧ b = k) ∨ (a = k ∧ b = i) then w else Wt l a b := by
    intro a b ha hb
    unfold Wt
    rw [hrow]
    have r1 := h.row k (by omega)
    have r2 := h.row i hi
    by_cases ca : a = k
    · subst ca
      rw [if_pos rfl, getD_set _ _ _ _ _ (by omega)]
      by_cases cb : b = i
      · rw [if_pos cb, if_pos (.inr ⟨rfl, cb⟩)]
      · rw [if_neg cb, if_neg (by omega)]
    · rw [if_neg ca]
      by_cases ci : a = i
      · subst ci
        rw [if_pos rfl, getD_set _ _ _ _ _ (by omega)]
        by_cases cb : b = k
        · rw [if_pos cb, if_pos (.inl ⟨rfl, cb⟩)]
        · rw [if_neg cb, if_neg (by omega)]
      · rw [if_neg ci, if_neg (by omega)]
  refine ⟨by simp [hl], ?_, ?_, ?_, ?_⟩
  · intro a ha
    rw [hrow]
    by_cases ca : a = k
    · rw [if_pos ca, List.length_set]; exact h.row k (by omega)
    · rw [if_neg ca]
      by_cases ci : a = i
      · rw [if_pos ci, List.length_set]; exact h.row i hi
      · rw [if_neg ci]; exact h.row a ha
  · intro a b ha hb
    rw [hW a b ha hb]
    by_cases c : (a = i ∧ b = k) ∨ (a = k ∧ b = i)
    · rw [if_pos c]; exact hw
    · rw [if_neg c]; exact h.bound a b ha hb
  · intro a b ha hb
    rw [hW a b ha hb, hW b a hb ha]
    by_cases c : (a = i ∧ b = k) ∨ (a = k ∧ b = i)
    · rw [if_pos c, if_pos (by omega)]
    · rw [if_neg c, if_neg (by omega)]; exact h.sym a b ha hb
  · intro a ha
    rw [hW a a ha ha, if_neg (by omega)]
    exact h.zero a ha
theorem Sq.zeros (n : Nat) : Sq n ((List.range n).map fun _ => List.replicate n 0) := by
  have hr : ∀ i, i < n → ((List.range n).map fun _ => List.replicate n (0 : Int)).getD i [] = List.replicate n 0 := by
    intro i hi
    simp [List.getD_eq_getElem?_getD, hi]
  have hW : ∀ i j, i < n → j < n → Wt ((List.range n).map fun _ => List.replicate n 0) i j = 0 := by
    intro i j hi hj
    unfold Wt
    rw [hr i hi]
    simp [List.getD_eq_getElem?_getD, hj]
  refine ⟨by simp, fun i hi => by rw [hr i hi]; simp, fun i j hi hj => by rw [hW i j hi hj]; decide, fun i j hi hj => by rw [hW i j hi hj, hW j i hj hi], fun i hi => hW i i hi hi⟩
section
variable {s : List Int} (hs : Bytes s) (n : Nat) (hn : n ≤ 9)
include hs hn
theorem draw2 (top : Int) (ht : 0 ≤ top ∧ top ≤ 1000) (i : Nat) (hi : i < n) (K : Nat)
    (rest : ∀ (k : Nat) (at_ sd : Int) (l : List (List Int)), K ≤ k → 0 ≤ at_ → at_ ≤ 5000 + 100000 * (i + 1) → Sq n l → ∃ l' a b, spec_l10DrawOk.l1 k n top ((i + 1 : Nat) : Int) s at_ sd l = some (l', a, b) ∧ Sq n l') :
    ∀ (d j k : Nat) (at_ sd : Int) (l : List (List Int)), i - j = d → j ≤ i → K + d + 2 ≤ k → 0 ≤ at_ → at_ ≤ 5000 + 100000 * i + 10 * j → Sq n l → ∃ l' a b, spec_l10DrawOk.l2 k n top i j s at_ sd l = some (l', a, b) ∧ Sq n l' := by
  intro d
  induction d with
  | zero =>
    intro j k at_ sd l hd hj hk h0 h1 hS
    obtain ⟨k, rfl⟩ : ∃ m, k = m + 1 := ⟨k - 1, by omega⟩
    simp only [spec_l10DrawOk.l2]
    rw [if_neg (by omega), w64s hi (by omega)]
    exact rest k at_ sd l (by omega) h0 (by omega) hS
  | succ d ih =>
    intro j k at_ sd l hd hj hk h0 h1 hS
    obtain ⟨k, rfl⟩ : ∃ m, k = m + 1 := ⟨k - 1, by omega⟩
    have hl := hS.len
    simp only [spec_l10DrawOk.l2]
    obtain ⟨v, at', sd', hv, v0, v1, a0, a1⟩ := pick_ok hs at_ sd (top + 1) h0 (by omega) k (by omega)
    rw [if_pos (by omega), w64 (x := top + 1) (by omega), hv]
    simp only [Option.bind_some]
    have r1 := hS.row i hi
    have r2 := hS.row j (by omega)
    have e2 : rd_Ls2 (l.set i ((l.getD i []).set j v)) j = l.getD j [] := by
      rw [rdL_nat, getD_set _ _ _ _ _ (by omega), if_neg (by omega)]
    rw [if_pos (by omega), if_pos (by omega), if_pos (by omega), rdL_nat, if_pos (by rw [r1]; omega)]
    simp only [Int.toNat_natCast]
    rw [if_pos (by omega), e2, if_pos (by rw [r2]; omega), w64s (show j < n by omega) (by omega)]
    have hp := hS.put hi (show j < i by omega) (w := v) (by omega)
    have e3 : ((l.set i ((l.getD i []).set j v)).getD j []) = l.getD j [] := by rw [getD_set _ _ _ _ _ (by omega), if_neg (by omega)]
    rw [e3] at hp
    exact ih (j + 1) k at' sd' _ (by omega) (by omega) (by omega) a0 (by omega) hp
theorem draw1 (top : Int) (ht : 0 ≤ top ∧ top ≤ 1000) : ∀ (d i k : Nat) (at_ sd : Int) (l : List (List Int)), n - i = d → i ≤ n → 20 * d + 1 ≤ k → 0 ≤ at_ → at_ ≤ 5000 + 100000 * i → Sq n l → ∃ l' a b, spec_l10DrawOk.l1 k n top i s at_ sd l = some (l', a, b) ∧ Sq n l' := by
  intro d
  induction d with
  | zero =>
    intro i k at_ sd l hd hi hk h0 h1 hS
    obtain ⟨k, rfl⟩ : ∃ m, k = m + 1 := ⟨k - 1, by omega⟩
    simp only [spec_l10DrawOk.l1]
    rw [if_neg (by omega)]
    exact ⟨l, at_, sd, rfl, hS⟩
  | succ d ih =>
    intro i k at_ sd l hd hi hk h0 h1 hS
    obtain ⟨k, rfl⟩ : ∃ m, k = m + 1 := ⟨k - 1, by omega⟩
    simp only [spec_l10DrawOk.l1]
    rw [if_pos (by omega)]
    exact draw2 hs n hn top ht i (by omega) (20 * d + 1) (fun k at_ sd l hk h0 h1 hS => ih (i + 1) k at_ sd l (by omega) (by omega) hk h0 (by push_cast; omega) hS) i 0 k at_ sd l (by omega) (by omega) (by omega) h0 (by omega) hS
theorem draw0 : ∀ (d i k : Nat) (at_ sd : Int), n - i = d → i ≤ n → d + 300 ≤ k → 0 ≤ at_ → at_ ≤ 1000 → ∃ l' a b, spec_l10DrawOk.l0 k n i s at_ sd ((List.range i).map fun _ => List.replicate n 0) = some (l', a, b) ∧ Sq n l' := by
  intro d
  induction d with
  | zero =>
    intro i k at_ sd hd hi hk h0 h1
    obtain ⟨k, rfl⟩ : ∃ m, k = m + 1 := ⟨k - 1, by omega⟩
    obtain rfl : i = n := by omega
    simp only [spec_l10DrawOk.l0]
    rw [if_neg (by omega)]
    unfold spec_l00Src_among.f
    obtain ⟨v, at', sd', hv, v0, v1, a0, a1⟩ := pick_ok hs at_ sd 3 h0 (by omega) k (by omega)
    rw [show ((([3, 10, 1000] : List Int).length : Nat) : Int) = 3 from rfl, hv]
    simp only [Option.bind_some]
    rw [if_pos v0, if_pos (by omega)]
    simp only [Option.bind_some]
    have ht : 0 ≤ rd ([3, 10, 1000] : List Int) v ∧ rd ([3, 10, 1000] : List Int) v ≤ 1000 := by
      have : v = 0 ∨ v = 1 ∨ v = 2 := by omega
      rcases this with rfl | rfl | rfl <;> decide
    obtain ⟨l', a, b, h, hS⟩ := draw1 hs i hn _ ht i 0 k at' sd' _ (by omega) (by omega) (by omega) a0 (by omega) (Sq.zeros i)
    exact ⟨l', a, b, h, hS⟩
  | succ d ih =>
    intro i k at_ sd hd hi hk h0 h1
    obtain ⟨k, rfl⟩ : ∃ m, k = m + 1 := ⟨k - 1, by omega⟩
    simp only [spec_l10DrawOk.l0]
    rw [if_pos (by omega), if_pos (by omega), if_pos (by omega), if_pos (by simp; omega), w64s (show i < n by omega) (by omega)]
    simp only [Int.toNat_natCast]
    have e : ((List.range i).map fun _ => List.replicate n (0 : Int)) ++ [List.replicate n 0] = (List.range (i + 1)).map fun _ => List.replicate n 0 := by
      rw [List.range_succ, List.map_append]
      rfl
    rw [e]
    exact ih (i + 1) k at_ sd (by omega) (by omega) (by omega) h0 h1
end
/-- The bundle that a law draws. -/
theorem r8Bundle {s : List Int} (hs : Bytes s) (k : Nat) (hk : 400 ≤ k) : ∃ l, spec_R8Bundle.f k s = some l ∧ Valid l ∧ l.length ≤ 6 := by
  unfold spec_R8Bundle.f spec_l00From.f spec_l10DrawOk.f
  simp only [Option.bind_some]
  obtain ⟨v, at', sd', hv, v0, v1, a0, a1⟩ := pick_ok hs 0 0 6 (by omega) (by omega) k (by omega)
  rw [hv]
  simp only [Option.bind_some]
  obtain ⟨n, rfl⟩ : ∃ n : Nat, v = n := ⟨v.toNat, by omega⟩
  rw [w64 (by omega), show (1 : Int) + (n : Int) = ((n + 1 : Nat) : Int) by push_cast; omega]
  obtain ⟨l', a, b, h, hS⟩ := draw0 hs (n + 1) (by omega) (n + 1) 0 k at' sd' (by omega) (by omega) (by omega) a0 (by omega)
  simp only [List.range_zero, List.map_nil, Int.natCast_zero] at h
  rw [h]
  exact ⟨l', rfl, hS.valid (by omega) (by omega), by have := hS.len; omega⟩
/-- An order of n wires, told as whole numbers. -/
structure Ord (n : Nat) (xs : List Int) : Prop where
  len : xs.length = n
  bd : ∀ j, j < n → 0 ≤ xs.getD j 0 ∧ xs.getD j 0 < n
  inj : ∀ i j, i < n → j < n → xs.getD i 0 = xs.getD j 0 → i = j
theorem Ord.swap {n : Nat} {xs : List Int} (h : Ord n xs) {i k : Nat} (hi : i < n) (hk : k < n) : Ord n ((xs.set k (xs.getD i 0)).set i (xs.getD k 0)) := by
  have hl := h.len
  have hg : ∀ j, ((xs.set k (xs.getD i 0)).set i (xs.getD k 0)).getD j 0 = xs.getD (if j = i then k else if j = k then i else j) 0 := by
    intro j
    rw [getD_set _ _ _ _ _ (by rw [List.length_set]; omega), getD_set _ _ _ _ _ (by omega)]
    split
    · rfl
    · split <;> rfl
  refine ⟨by simp [hl], fun j hj => ?_, fun a b ha hb e => ?_⟩
  · rw [hg]
    exact h.bd _ (by
      by_cases c : j = i
      · rw [if_pos c]; exact hk
      · rw [if_neg c]
        by_cases c2 : j = k
        · rw [if_pos c2]; exact hi
        · rw [if_neg c2]; exact hj)
  · rw [hg, hg] at e
    have lt : ∀ j, j < n → (if j = i then k else if j = k then i else j) < n := by
      intro j hj
      by_cases c : j = i
      · rw [if_pos c]; exact hk
      · rw [if_neg c]
        by_cases c2 : j = k
        · rw [if_pos c2]; exact hi
        · rw [if_neg c2]; exact hj
    have := h.inj _ _ (lt a ha) (lt b hb) e
    by_cases c1 : a = i <;> by_cases c2 : a = k <;> by_cases c3 : b = i <;> by_cases c4 : b = k <;> simp only [c1, c2, c3, c4, if_true, if_false] at this <;> (try split at this) <;> (try split at this) <;> omega
theorem Ord.range (n : Nat) : Ord n ((List.range n).map fun x : Nat => (x : Int)) := by
  have hg : ∀ j, j < n → ((List.range n).map fun x : Nat => (x : Int)).getD j 0 = j := by
    intro j hj
    simp [List.getD_eq_getElem?_getD, hj]
  refine ⟨by simp, fun j hj => by rw [hg j hj]; omega, fun i j hi hj e => by rw [hg i hi, hg j hj] at e; omega⟩
section
variable {s : List Int} (hs : Bytes s) (n : Nat) (hn : n ≤ 9)
include hs hn
theorem ord1 : ∀ (i k : Nat) (at_ sd : Int) (xs : List Int), i < n → i + 2 ≤ k → 0 ≤ at_ → at_ + 10 * i ≤ 10000 → Ord n xs → ∃ ys, spec_R8Order.l1 k xs i s at_ sd = some ys ∧ Ord n ys := by
  intro i
  induction i with
  | zero =>
    intro k at_ sd xs hi hk h0 h1 hO
    obtain ⟨k, rfl⟩ : ∃ m, k = m + 1 := ⟨k - 1, by omega⟩
    simp only [spec_R8Order.l1]
    rw [if_neg (by omega)]
    exact ⟨xs, rfl, hO⟩
  | succ i ih =>
    intro k at_ sd xs hi hk h0 h1 hO
    obtain ⟨k, rfl⟩ : ∃ m, k = m + 1 := ⟨k - 1, by omega⟩
    simp only [spec_R8Order.l1]
    have hl := hO.len
    rw [if_pos (by omega), w64 (x := ((i + 1 : Nat) : Int) + 1) (by omega)]
    obtain ⟨v, at', sd', hv, v0, v1, a0, a1⟩ := pick_ok hs at_ sd (((i + 1 : Nat) : Int) + 1) h0 (by omega) k (by omega)
    rw [hv]
    simp only [Option.bind_some]
    obtain ⟨m, rfl⟩ : ∃ m : Nat, v = m := ⟨v.toNat, by omega⟩
    rw [if_pos (by omega), if_pos (by omega), if_pos (by omega), if_pos (by omega), rd_nat, rd_nat, Int.toNat_natCast, Int.toNat_natCast, w64 (by omega), show ((i + 1 : Nat) : Int) - 1 = (i : Int) by omega]
    exact ih k at' sd' _ (by omega) (by omega) a0 (by omega) (hO.swap hi (by omega))
theorem ord0 (h1n : 1 ≤ n) : ∀ (d i k : Nat), n - i = d → i ≤ n → d + 20 ≤ k → ∃ ys, spec_R8Order.l0 k n ((List.range i).map fun x : Nat => (x : Int)) i s 0 0 = some ys ∧ Ord n ys := by
  intro d
  induction d with
  | zero =>
    intro i k hd hi hk
    obtain ⟨k, rfl⟩ : ∃ m, k = m + 1 := ⟨k - 1, by omega⟩
    obtain rfl : i = n := by omega
    simp only [spec_R8Order.l0]
    rw [if_neg (by omega), w64 (by omega), show (i : Int) - 1 = ((i - 1 : Nat) : Int) by omega]
    exact ord1 hs i hn (i - 1) k 0 0 _ (by omega) (by omega) (by omega) (by omega) (Ord.range i)
  | succ d ih =>
    intro i k hd hi hk
    obtain ⟨k, rfl⟩ : ∃ m, k = m + 1 := ⟨k - 1, by omega⟩
    simp only [spec_R8Order.l0]
    rw [if_pos (by omega), if_pos (by simp; omega), w64s (show i < n by omega) (by omega)]
    have e : ((List.range i).map fun x : Nat => (x : Int)) ++ [(i : Int)] = (List.range (i + 1)).map fun x : Nat => (x : Int) := by rw [List.range_succ, List.map_append]; rfl
    rw [e]
    exact ih (i + 1) k (by omega) (by omega) (by omega)
/-- The order that a law draws. -/
theorem r8Order (h1n : 1 ≤ n) (k : Nat) (hk : 40 ≤ k) : ∃ ys, spec_R8Order.f k s n = some ys ∧ Ord n ys := by
  unfold spec_R8Order.f spec_l00From.f
  simp only [Option.bind_some]
  have := ord0 hs n hn h1n n 0 k (by omega) (by omega) (by omega)
  simpa using this
end
end Go.Proofs.Ytaapbnhggfmlpaa.B
end
section
set_option linter.unusedVariables false
namespace Go.Proofs.Ytaapbnhggfmlpaa.B
open Go.RowKit Go.Proofs.Ytaapbnhggfmlpaa.P Go.Proofs.YtaapbnhggfmlpaaW.PrintWords Go.Proofs.YtaapbnhggfmlpaaW.PrintLast Go.Proofs.YtaapbnhggfmlpaaW.PrintMore Go.Proofs.Ytaapbnhggfmlpaa.A
/-- An order as a list of wires. -/
structure OrdN (n : Nat) (os : List Nat) : Prop where
  len : os.length = n
  nd : os.Nodup
  lt : ∀ v ∈ os, v < n
theorem up_getD_any (S : List Nat) (i : Nat) : (up S).getD i 0 = ((S.getD i 0 : Nat) : Int) := by
  unfold up
  simp only [List.getD_eq_getElem?_getD, List.getElem?_map]
  cases S[i]? <;> simp
theorem Ord.nat {n : Nat} {xs : List Int} (h : Ord n xs) : ∃ os, xs = up os ∧ OrdN n os := by
  have hx : xs = up (xs.map Int.toNat) := by
    unfold up
    rw [List.map_map]
    refine (List.map_id' _).symm.trans (List.map_congr_left fun x hx => ?_)
    obtain ⟨j, hj, rfl⟩ := List.getElem_of_mem hx
    have := (h.bd j (by rw [← h.len]; exact hj)).1
    simp only [List.getD_eq_getElem?_getD, List.getElem?_eq_getElem hj, Option.getD_some] at this
    simp only [Function.comp]
    omega
  refine ⟨xs.map Int.toNat, hx, by simp [h.len], ?_, ?_⟩
  · unfold List.Nodup
    rw [List.pairwise_iff_getElem]
    intro i j hi0 hj0 hij
    simp only [List.length_map] at hi0 hj0
    have hj := hj0
    rw [List.getElem_map, List.getElem_map]
    intro e
    have hi' : i < xs.length := hi0
    have b1 := (h.bd i (by rw [← h.len]; exact hi')).1
    have b2 := (h.bd j (by rw [← h.len]; exact hj)).1
    have := h.inj i j (by rw [← h.len]; exact hi') (by rw [← h.len]; exact hj) (by
      simp only [List.getD_eq_getElem?_getD, List.getElem?_eq_getElem hj, List.getElem?_eq_getElem hi', Option.getD_some] at b1 b2 ⊢
      omega)
    omega
  · intro v hv
    obtain ⟨x, hx, rfl⟩ := List.mem_map.1 hv
    obtain ⟨j, hj, rfl⟩ := List.getElem_of_mem hx
    have := h.bd j (by rw [← h.len]; exact hj)
    simp only [List.getD_eq_getElem?_getD, List.getElem?_eq_getElem hj, Option.getD_some] at this
    omega
theorem OrdN.ord {n : Nat} {os : List Nat} (h : OrdN n os) : Ord n (up os) := by
  refine ⟨by simp [up, h.len], fun j hj => ?_, fun i j hi hj e => ?_⟩
  · rw [up_getD_any]
    have := h.lt (os.getD j 0) (getD_mem (by rw [h.len]; exact hj))
    omega
  · rw [up_getD_any, up_getD_any] at e
    have hi' : i < os.length := by rw [h.len]; exact hi
    have hj' : j < os.length := by rw [h.len]; exact hj
    have e2 : os.getD i 0 = os.getD j 0 := by omega
    simp only [List.getD_eq_getElem?_getD, List.getElem?_eq_getElem hj', List.getElem?_eq_getElem hi', Option.getD_some] at e2
    rcases Nat.lt_trichotomy i j with c | c | c
    · exact absurd e2 (List.pairwise_iff_getElem.1 h.nd i j hi' hj' c)
    · exact c
    · exact absurd e2.symm (List.pairwise_iff_getElem.1 h.nd j i hj' hi' c)
theorem index0 (xs : List Int) (a : Int) (hl : xs.length ≤ 1048576) : ∀ (d k i : Nat), xs.length - i = d → d < k → i ≤ xs.length → ∃ r, slices_Index_int64_int64.l0 k xs a xs.length i = some r ∧ (0 ≤ r ↔ a ∈ xs.drop i) := by
  intro d
  induction d with
  | zero =>
    intro k i hd hk hi
    obtain ⟨k, rfl⟩ : ∃ m, k = m + 1 := ⟨k - 1, by omega⟩
    simp only [slices_Index_int64_int64.l0]
    rw [if_neg (by omega)]
    refine ⟨-1, rfl, ?_⟩
    rw [List.drop_eq_nil_of_le (by omega)]
    simp
  | succ d ih =>
    intro k i hd hk hi
    obtain ⟨k, rfl⟩ : ∃ m, k = m + 1 := ⟨k - 1, by omega⟩
    simp only [slices_Index_int64_int64.l0]
    have hlt : i < xs.length := by omega
    rw [if_pos (by omega), if_pos (by omega), if_pos (by omega), rd_nat]
    rw [List.drop_eq_getElem_cons hlt]
    have e : xs.getD i 0 = xs[i] := by simp [List.getD_eq_getElem?_getD, hlt]
    rw [e]
    by_cases c : a = xs[i]
    · rw [if_pos c]
      exact ⟨i, rfl, ⟨fun _ => by rw [List.mem_cons]; exact .inl c, fun _ => by omega⟩⟩
    · rw [if_neg c, w64s hlt (by omega)]
      obtain ⟨r, hr, h⟩ := ih k (i + 1) (by omega) (by omega) (by omega)
      exact ⟨r, hr, h.trans ⟨fun h => List.mem_cons_of_mem _ h, fun h => (List.mem_cons.1 h).resolve_left c⟩⟩
theorem contains (xs : List Int) (a : Int) (hl : xs.length ≤ 1048576) (k : Nat) (hk : xs.length < k) : slices_Contains_int64_int64.f k xs a = some (decide (a ∈ xs)) := by
  unfold slices_Contains_int64_int64.f slices_Index_int64_int64.f
  obtain ⟨r, hr, h⟩ := index0 xs a hl xs.length k 0 rfl hk (by omega)
  rw [show (0 : Int) = ((0 : Nat) : Int) from rfl, hr]
  rw [List.drop_zero] at h
  simp only [Option.bind_some]
  congr 1
  rw [decide_eq_decide]
  exact h
theorem shl_nat {i : Nat} (hi : i ≤ 9) : shl .i64 1 (i : Int) = wrap64 (2 ^ i) := by
  unfold shl
  rw [i64_w, Int.toNat_natCast, show IntKind.i64.bits = 64 from rfl, Nat.min_eq_left (by omega), Int.one_mul]
theorem shr_nat (D : Int) {i : Nat} (hi : i ≤ 9) : shr .i64 D (i : Int) = D / 2 ^ i := by
  unfold shr
  rw [Int.toNat_natCast, show IntKind.i64.bits = 64 from rfl, Nat.min_eq_left (by omega)]
section
variable {l : List (List Int)} (V : Valid l)
include V
open Classical in
theorem orderOk0 (xs : List Int) (hl : xs.length ≤ 1048576) : ∀ (d i k D : Nat), xs.length - i = d → i ≤ xs.length → d + 260 ≤ k → D < 2 ^ l.length → (∀ v : Nat, D.testBit v = true ↔ ∃ j, j < i ∧ xs.getD j 0 = v) →
    (∀ j, j < i → 0 ≤ xs.getD j 0 ∧ xs.getD j 0 < l.length) → (∀ a b, a < i → b < i → xs.getD a 0 = xs.getD b 0 → a = b) → ∃ b, impl_orderOk.l0 k xs D xs xs.length i l = some b ∧ (b = true ↔ Ord l.length xs) := by
  have hn := V.le
  have h9 := pow9 hn
  intro d
  induction d with
  | zero =>
    intro i k D hd hi hk hD hb hr hj
    obtain ⟨k, rfl⟩ : ∃ m, k = m + 1 := ⟨k - 1, by omega⟩
    obtain rfl : i = xs.length := by omega
    simp only [impl_orderOk.l0]
    rw [if_neg (by omega), validBundle l k (by omega), decide_eq_true V]
    simp only [Option.bind_some, if_true]
    refine ⟨_, rfl, ?_⟩
    rw [beq_iff_eq]
    constructor
    · intro e
      have e' : xs.length = l.length := by omega
      exact ⟨e', fun j hj' => hr j (by omega), fun a b ha hb' => hj a b (by omega) (by omega)⟩
    · intro h
      have := h.len
      omega
  | succ d ih =>
    intro i k D hd hi hk hD hb hr hj
    obtain ⟨k, rfl⟩ : ∃ m, k = m + 1 := ⟨k - 1, by omega⟩
    have hlt : i < xs.length := by omega
    simp only [impl_orderOk.l0]
    rw [if_pos (by omega), if_pos (by omega), if_pos (by omega), in_impl, rd_nat, w64 (x := (l.length : Int) - 1) (by omega)]
    simp only [Option.bind_some]
    by_cases c : xs.getD i 0 ≥ 0 ∧ xs.getD i 0 ≤ (l.length : Int) - 1
    · obtain ⟨v, hv⟩ : ∃ v : Nat, xs.getD i 0 = v := ⟨(xs.getD i 0).toNat, by omega⟩
      rw [hv] at c ⊢
      rw [decide_eq_true c]
      simp only [if_true]
      have hvn : v < l.length := by omega
      rw [if_pos (by omega), shr_nat _ (by omega), shl_nat (by omega)]
      by_cases ct : D.testBit v = true
      · rw [if_pos ((tst_nat D v (by omega)).2 ct)]
        refine ⟨false, rfl, ?_⟩
        constructor
        · intro h; cases h
        · intro h
          obtain ⟨j, hj1, hj2⟩ := (hb v).1 ct
          have hlen := h.len
          have := h.inj j i (by omega) (by omega) (by rw [hj2, hv])
          omega
      · rw [if_neg (fun h => ct ((tst_nat D v (by omega)).1 h)), show Go.bits .or .i64 (D : Int) (wrap64 (2 ^ v)) = setb D v from rfl, setb_nat D v (by omega) (by omega), w64s hlt (by omega)]
        refine ih (i + 1) k (D ||| 2 ^ v) (by omega) (by omega) (by omega) (or_lt hD hvn) ?_ ?_ ?_
        · intro u
          rw [testBit_or_pow]
          constructor
          · intro h
            rcases Bool.or_eq_true _ _ |>.mp h with h | h
            · obtain ⟨j, a, b⟩ := (hb u).1 h
              exact ⟨j, by omega, b⟩
            · exact ⟨i, by omega, by rw [hv, of_decide_eq_true h]⟩
          · rintro ⟨j, a, b⟩
            by_cases e : j = i
            · subst e
              rw [hv] at b
              have : v = u := by omega
              simp [this]
            · rw [(hb u).2 ⟨j, by omega, b⟩]
              rfl
        · intro j hj'
          by_cases e : j = i
          · subst e
            rw [hv]
            omega
          · exact hr j (by omega)
        · intro a b ha hb' e
          by_cases ea : a = i
          · subst ea
            by_cases eb : b = a
            · exact eb.symm
            · exact absurd ((hb v).2 ⟨b, by omega, by rw [← e, hv]⟩) ct
          · by_cases eb : b = i
            · subst eb
              exact absurd ((hb v).2 ⟨a, by omega, by rw [e, hv]⟩) ct
            · exact hj a b (by omega) (by omega) e
    · rw [decide_eq_false c]
      simp only [Bool.false_eq_true, if_false]
      refine ⟨false, rfl, ?_⟩
      constructor
      · intro h; cases h
      · intro h
        have hlen := h.len
        have := h.bd i (by omega)
        omega
theorem orderOk (xs : List Int) (hl : xs.length ≤ 1048576) (k : Nat) (hk : xs.length + 260 ≤ k) : ∃ b, impl_orderOk.f k l xs = some b ∧ (b = true ↔ Ord l.length xs) := by
  unfold impl_orderOk.f
  exact orderOk0 V xs hl xs.length 0 k 0 (by omega) (by omega) (by omega) (Nat.two_pow_pos _) (fun v => by simp) (fun j h => by omega) (fun a b h => by omega)
/-- Shields that rise between the wires. -/
def Rise (n : Nat) (sh : List Int) : Prop := ∀ i, i < sh.length → 1 ≤ sh.getD i 0 ∧ sh.getD i 0 < n ∧ (0 < i → sh.getD (i - 1) 0 < sh.getD i 0)
theorem isLayout0 (xs sh : List Int) (hl : xs.length ≤ 1048576) (hs : sh.length ≤ 1048576) (hr : Rise l.length sh) : ∀ (d i k : Nat), sh.length - i = d → i ≤ sh.length → 2 * d + xs.length + 262 ≤ k → ∃ b, impl_IsLayout.l0 k xs sh sh sh.length i l = some b ∧ (b = true ↔ Ord l.length xs) := by
  have hn := V.le
  intro d
  induction d with
  | zero =>
    intro i k hd hi hk
    obtain ⟨k, rfl⟩ : ∃ m, k = m + 1 := ⟨k - 1, by omega⟩
    simp only [impl_IsLayout.l0]
    rw [if_neg (by omega)]
    obtain ⟨b, hb, h⟩ := orderOk V xs hl k (by omega)
    rw [hb]
    exact ⟨b, rfl, h⟩
  | succ d ih =>
    intro i k hd hi hk
    obtain ⟨k, rfl⟩ : ∃ m, k = m + 2 := ⟨k - 2, by omega⟩
    have hlt : i < sh.length := by omega
    obtain ⟨h1, h2, h3⟩ := hr i hlt
    simp only [impl_IsLayout.l0, impl_IsLayout.j1]
    rw [if_pos (by omega), if_pos (by omega), if_pos (by omega), in_impl, rd_nat, w64 (x := (l.length : Int) - 1) (by omega), decide_eq_true (by omega)]
    simp only [Option.bind_some, if_true]
    by_cases c : (i : Int) > 0
    · rw [if_pos c, w64 (x := (i : Int) - 1) (by omega), if_pos (by omega), if_pos (by omega), show (i : Int) - 1 = ((i - 1 : Nat) : Int) by omega, rd_nat, decide_eq_false (by have := h3 (by omega); omega)]
      simp only [Bool.false_eq_true, if_false]
      rw [w64s hlt (by omega)]
      exact ih (i + 1) k (by omega) (by omega) (by omega)
    · rw [if_neg c]
      simp only [Bool.false_eq_true, if_false]
      rw [w64s hlt (by omega)]
      exact ih (i + 1) k (by omega) (by omega) (by omega)
theorem isLayout (xs sh : List Int) (hl : xs.length ≤ 1048576) (hs : sh.length ≤ 1048576) (hr : Rise l.length sh) (k : Nat) (hk : 2 * sh.length + xs.length + 262 ≤ k) : ∃ b, impl_IsLayout.f k l xs sh = some b ∧ (b = true ↔ Ord l.length xs) := by
  unfold impl_IsLayout.f
  exact isLayout0 V xs sh hl hs hr sh.length 0 k (by omega) (by omega) (by omega)
end
/-- The wires that follow, each with whether a shield stands ahead of it. -/
def fl (sh : List Int) : Nat → List Nat → List (Nat × Bool)
  | _, [] => []
  | j, i :: r => (i, decide ((j : Int) ∈ sh)) :: fl sh (j + 1) r
theorem fl_fst (sh : List Int) : ∀ (r : List Nat) (j : Nat), (fl sh j r).map Prod.fst = r
  | [], _ => rfl
  | i :: r, j => by simp [fl, fl_fst sh r (j + 1)]
theorem fl_nil : ∀ (r : List Nat) (j : Nat), fl [] j r = r.map fun i => (i, false)
  | [], _ => rfl
  | i :: r, j => by simp [fl, fl_nil r (j + 1)]
theorem weight {l : List (List Int)} (V : Valid l) {os : List Nat} (hlt : ∀ v ∈ os, v < l.length) (i : Nat) (hi : i + 1 < os.length) (hm : os.length ≤ 1048576) : impl_Bundle_weight.f l (up os) i = some (Wt l (os.getD i 0) (os.getD (i + 1) 0)) := by
  have a1 := hlt (os.getD i 0) (getD_mem (by omega))
  have a2 := hlt (os.getD (i + 1) 0) (getD_mem (by omega))
  have hr := V.row (os.getD i 0) a1
  unfold impl_Bundle_weight.f
  rw [if_pos (by omega), if_pos (by rw [up_length]; omega), rd_nat, up_getD_any, if_pos (by omega), if_pos (by omega), w64 (by omega), show (i : Int) + 1 = ((i + 1 : Nat) : Int) by omega, if_pos (by omega), if_pos (by rw [up_length]; omega), rd_nat, up_getD_any, if_pos (by omega), rdL_nat, hr, if_pos (by omega), rd_nat]
  rfl
theorem coupling0 {l : List (List Int)} (V : Valid l) (sh : List Int) (hs : sh.length ≤ 1048576) (os : List Nat) (hlt : ∀ v ∈ os, v < l.length) (hm : os.length ≤ 9) : ∀ (rest : List Nat) (a i k : Nat) (acc : Int), os.drop i = a :: rest → rest.length + sh.length + 2 ≤ k → 0 ≤ acc → acc ≤ 1000 * i →
    impl_Bundle_coupling.l0 k (up os) sh acc (wrap64 ((up os).length - 1)) i l = some (acc + pathC (Wt l) a (fl sh (i + 1) rest)) := by
  intro rest
  induction rest with
  | nil =>
    intro a i k acc hd hk h0 h1
    obtain ⟨k, rfl⟩ : ∃ m, k = m + 1 := ⟨k - 1, by omega⟩
    have hlen : os.length = i + 1 := by
      have := congrArg List.length hd
      simp at this
      omega
    simp only [impl_Bundle_coupling.l0]
    rw [up_length, w64 (by omega), if_neg (by omega)]
    simp [fl, pathC]
  | cons b rest ih =>
    intro a i k acc hd hk h0 h1
    obtain ⟨k, rfl⟩ : ∃ m, k = m + 1 := ⟨k - 1, by omega⟩
    have hlen : i + 1 < os.length := by
      have := congrArg List.length hd
      simp at this
      omega
    have hd' : os.drop (i + 1) = b :: rest := by
      rw [← List.drop_drop, hd]
      rfl
    have ea : os.getD i 0 = a := by
      have := congrArg (fun x => x.getD 0 0) hd
      simpa [List.getD_eq_getElem?_getD] using this
    have eb : os.getD (i + 1) 0 = b := by
      have := congrArg (fun x => x.getD 0 0) hd'
      simpa [List.getD_eq_getElem?_getD] using this
    have hb := V.bound a b (by rw [← ea]; exact hlt _ (getD_mem (by omega))) (by rw [← eb]; exact hlt _ (getD_mem (by omega)))
    simp only [List.length_cons] at hk
    have e1 : ((i : Int) + 1) = ((i + 1 : Nat) : Int) := by omega
    conv => lhs; unfold impl_Bundle_coupling.l0
    rw [if_pos (by rw [up_length, w64 (by omega)]; omega), w64 (x := (i : Int) + 1) (by omega), e1, contains sh _ hs k (by omega)]
    simp only [Option.bind_some]
    by_cases c : ((i + 1 : Nat) : Int) ∈ sh
    · rw [decide_eq_true c]
      simp only [if_true]
      rw [ih b (i + 1) k acc hd' (by omega) h0 (by omega)]
      simp only [fl, pathC]
      rw [decide_eq_true c]
      simp
    · rw [decide_eq_false c]
      simp only [Bool.false_eq_true, if_false]
      rw [weight V hlt i hlen (by omega), ea, eb]
      simp only [Option.bind_some]
      rw [w64 (by omega), ih b (i + 1) k (acc + Wt l a b) hd' (by omega) (by omega) (by omega)]
      simp only [fl, pathC]
      rw [decide_eq_false c]
      simp only [Bool.false_eq_true, if_false, Option.some.injEq]
      omega
theorem coupling {l : List (List Int)} (V : Valid l) (sh : List Int) (hs : sh.length ≤ 1048576) {a : Nat} {rest : List Nat} (hO : OrdN l.length (a :: rest)) (k : Nat) (hk : sh.length + 20 ≤ k) :
    impl_Bundle_coupling.f k l (up (a :: rest)) sh = some (pathC (Wt l) a (fl sh 1 rest)) := by
  unfold impl_Bundle_coupling.f
  have hlen := hO.len
  have hn := V.le
  simp only [List.length_cons] at hlen
  have := coupling0 V sh hs (a :: rest) hO.lt (by simp; omega) rest a 0 k 0 rfl (by omega) (by omega) (by omega)
  simpa using this
theorem couplingOf {l : List (List Int)} (V : Valid l) (sh : List Int) (hs : sh.length ≤ 1000) (hr : Rise l.length sh) {a : Nat} {rest : List Nat} (hO : OrdN l.length (a :: rest)) (k : Nat) (hk : 3000 ≤ k) :
    impl_CouplingOf.f k l (up (a :: rest)) sh = some (pathC (Wt l) a (fl sh 1 rest), true) := by
  unfold impl_CouplingOf.f
  have hlen := hO.len
  have hn := V.le
  obtain ⟨b, hb, h⟩ := isLayout V (up (a :: rest)) sh (by rw [up_length]; omega) (by omega) hr k (by rw [up_length]; omega)
  rw [hb, h.2 hO.ord]
  simp only [Option.bind_some, if_true]
  rw [coupling V sh (by omega) hO k (by omega)]
  rfl
theorem couplingOf_no {l : List (List Int)} (V : Valid l) (sh : List Int) (hs : sh.length ≤ 1000) (hr : Rise l.length sh) {xs : List Int} (hl : xs.length ≤ 1000) (hO : ¬ Ord l.length xs) (k : Nat) (hk : 4000 ≤ k) :
    impl_CouplingOf.f k l xs sh = some (0, false) := by
  unfold impl_CouplingOf.f
  obtain ⟨b, hb, h⟩ := isLayout V xs sh (by omega) (by omega) hr k (by omega)
  have : b = false := by
    cases b
    · rfl
    · exact absurd (h.1 rfl) hO
  rw [hb, this]
  simp
theorem rise_nil (n : Nat) : Rise n [] := fun i h => absurd h (by simp)
end Go.Proofs.Ytaapbnhggfmlpaa.B
end
section
set_option linter.unusedVariables false
namespace Go.Proofs.Ytaapbnhggfmlpaa.B
open Go.RowKit Go.Proofs.Ytaapbnhggfmlpaa.P Go.Proofs.YtaapbnhggfmlpaaW.PrintWords Go.Proofs.YtaapbnhggfmlpaaW.PrintLast Go.Proofs.YtaapbnhggfmlpaaW.PrintMore Go.Proofs.Ytaapbnhggfmlpaa.A
theorem ucnt_empty : ∀ n, ucnt n 0 = n := by
  intro n
  induction n with
  | zero => rfl
  | succ n ih => rw [ucnt_succ, ih]; simp
theorem ucnt_one {n a : Nat} (ha : a < n) : ucnt n (2 ^ a) + 1 = n := by
  have h := ucnt_or n 0 a (by simp)
  rw [if_pos ha, Nat.zero_or, ucnt_empty] at h
  exact h
theorem tb_pow {a i : Nat} (h : i ≠ a) : (2 ^ a).testBit i = false := by
  rw [Nat.testBit_two_pow]
  simp
  exact fun e => h e.symm
section
variable {n : Nat} {W : Nat → Nat → Int} {fin : Int}
theorem cmp_ord {a S : Nat} {p : List (Nat × Bool)} {c : Int} (ha : a < n) (h : Cmp n W fin (2 ^ a) a S p c) : OrdN n (a :: p.map Prod.fst) := by
  have h1 := h.len
  have h2 := ucnt_one ha
  obtain ⟨h3, h4⟩ := h.nodup
  refine ⟨by simp; omega, List.nodup_cons.2 ⟨fun hm => ?_, h3⟩, fun v hv => ?_⟩
  · have := (h4 a hm).2
    simp [Nat.testBit_two_pow_self] at this
  · rcases List.mem_cons.1 hv with rfl | hv
    · exact ha
    · exact (h4 v hv).1
theorem ord_cmp {a : Nat} {p : List (Nat × Bool)} (h : OrdN n (a :: p.map Prod.fst)) (hf : fin < 0 ∨ (((p.map Prod.fst).getLastD a : Nat) : Int) = fin) : Cmp n W fin (2 ^ a) a (trues p) p (pathC W a p) := by
  have ha : a < n := h.lt a (List.mem_cons_self ..)
  obtain ⟨h1, h2⟩ := List.nodup_cons.1 h.nd
  have h3 := h.len
  have h4 := ucnt_one ha
  refine Cmp.of p (2 ^ a) a (Nat.pow_lt_pow_right (by decide) ha) h2 (fun i hi => ⟨h.lt i (List.mem_cons_of_mem _ hi), tb_pow fun e => h1 (e ▸ hi)⟩) (by simp at h3; omega) hf
end
theorem plain_fst (r : List Nat) : (r.map fun i => (i, false)).map Prod.fst = r := by
  rw [List.map_map]
  exact List.map_id' r
theorem plain_trues : ∀ (r : List Nat), trues (r.map fun i => (i, false)) = 0
  | [] => rfl
  | i :: r => by have := plain_trues r; simp [trues] at this ⊢
theorem trues_zero : ∀ (p : List (Nat × Bool)), trues p = 0 → p = (p.map Prod.fst).map fun i => (i, false)
  | [], _ => rfl
  | (i, true) :: p, h => by simp [trues] at h
  | (i, false) :: p, h => by
    have h' : trues p = 0 := by simpa [trues] using h
    have := trues_zero p h'
    rw [List.map_cons, List.map_cons, ← this]
/-- The first ones with shields. -/
def flagged : List Nat → Nat → List (Nat × Bool)
  | [], _ => []
  | i :: r, 0 => (i, false) :: flagged r 0
  | i :: r, s + 1 => (i, true) :: flagged r s
theorem flagged_fst : ∀ (r : List Nat) (s : Nat), (flagged r s).map Prod.fst = r
  | [], _ => rfl
  | i :: r, 0 => by simp [flagged, flagged_fst r 0]
  | i :: r, s + 1 => by simp [flagged, flagged_fst r s]
theorem flagged_trues : ∀ (r : List Nat) (s : Nat), s ≤ r.length → trues (flagged r s) = s
  | [], s, h => by simp at h; subst h; rfl
  | i :: r, 0, _ => by have := flagged_trues r 0 (Nat.zero_le _); simp [flagged, trues] at this ⊢; exact this
  | i :: r, s + 1, h => by have := flagged_trues r s (by simpa using h); simp [flagged, trues] at this ⊢; exact this
theorem range_ord (n : Nat) (h : 1 ≤ n) : OrdN n (0 :: (List.range n).tail) := by
  have e : (0 :: (List.range n).tail) = List.range n := by
    obtain ⟨m, rfl⟩ : ∃ m, n = m + 1 := ⟨n - 1, by omega⟩
    rw [List.range_succ_eq_map]
    rfl
  rw [e]
  exact ⟨by simp, List.nodup_range, fun v hv => List.mem_range.1 hv⟩
section
variable {l : List (List Int)} (V : Valid l)
include V
open Classical in
theorem vb_true (k : Nat) (hk : 250 ≤ k) : impl_ValidBundle.f k l = some true := by
  rw [validBundle l k hk, decide_eq_true V]
theorem bestOrder (s : Nat) (hs : s + 1 ≤ l.length) : ∃ w p c, impl_BestOrder.f l s = some (up (w :: p.map Prod.fst), c, true) ∧ w < l.length ∧ Cmp l.length (Wt l) (-1) (2 ^ w) w s p c ∧
    ∀ a p', OrdN l.length (a :: p'.map Prod.fst) → trues p' = s → c ≤ pathC (Wt l) a p' ∧ (pathC (Wt l) a p' = c → lexLE (w :: p.map Prod.fst) (a :: p'.map Prod.fst)) := by
  have hn := V.le
  have hcmp : ∀ a p', OrdN l.length (a :: p'.map Prod.fst) → trues p' = s → Cmp l.length (Wt l) (-1) (2 ^ a) a s p' (pathC (Wt l) a p') := by
    intro a p' h e
    rw [← e]
    exact ord_cmp h (.inl (by decide))
  unfold impl_BestOrder.f
  rw [vb_true V 300 (by omega)]
  simp only [Option.bind_some]
  rw [if_pos ⟨trivial, by omega, by omega⟩]
  rcases orderF_best (fin := -1) V s (by omega) (List.range l.length) (fun w hw => List.mem_range.1 hw) List.pairwise_lt_range with ⟨_, h⟩ | ⟨w, hw, p, c, h1, h2, h3⟩
  · have ho := range_ord l.length (by omega)
    have hl := ho.len
    simp only [List.length_cons] at hl
    exact absurd (hcmp 0 (flagged (List.range l.length).tail s) (by rw [flagged_fst]; exact ho) (flagged_trues _ _ (by omega))) (h 0 (List.mem_range.2 (by omega)) _ _)
  · refine ⟨w, p, c, by rw [h1], List.mem_range.1 hw, h2, fun a p' ho e => ?_⟩
    exact h3 a (List.mem_range.2 (ho.lt a (List.mem_cons_self ..))) p' _ (hcmp a p' ho e)
omit V in
theorem between_ord {f la : Nat} (hf : f < l.length) (hl : la < l.length) (h : f = la ↔ l.length = 1) : ∃ r, OrdN l.length (f :: r) ∧ r.getLastD f = la := by
  by_cases e : f = la
  · have hn := h.1 e
    refine ⟨[], ⟨by simp [hn], by simp, fun v hv => ?_⟩, by simpa using e⟩
    obtain rfl := List.mem_singleton.1 hv
    exact hf
  · refine ⟨(List.range l.length).filter (fun i => decide (i ≠ f ∧ i ≠ la)) ++ [la], ?_, ?_⟩
    · have hnd : (f :: ((List.range l.length).filter (fun i => decide (i ≠ f ∧ i ≠ la)) ++ [la])).Nodup := by
        refine List.nodup_cons.2 ⟨fun hm => ?_, ?_⟩
        · rcases List.mem_append.1 hm with hm | hm
          · have := (List.mem_filter.1 hm).2
            simp at this
          · exact e (List.mem_singleton.1 hm)
        · rw [List.nodup_append]
          refine ⟨List.nodup_range.filter _, by simp, fun x hx y hy => ?_⟩
          obtain rfl := List.mem_singleton.1 hy
          have := (List.mem_filter.1 hx).2
          simp at this
          exact this.2
      have hm : ∀ a, a ∈ f :: ((List.range l.length).filter (fun i => decide (i ≠ f ∧ i ≠ la)) ++ [la]) ↔ a ∈ List.range l.length := by
        intro a
        rw [List.mem_cons, List.mem_append, List.mem_filter, List.mem_singleton, List.mem_range]
        constructor
        · rintro (rfl | ⟨h, _⟩ | rfl)
          · exact hf
          · exact h
          · exact hl
        · intro h
          by_cases h1 : a = f
          · exact .inl h1
          · by_cases h2 : a = la
            · exact .inr (.inr h2)
            · exact .inr (.inl ⟨h, by simp [h1, h2]⟩)
      have hp := (List.perm_ext_iff_of_nodup hnd List.nodup_range).2 hm
      exact ⟨by rw [hp.length_eq]; simp, hnd, fun v hv => List.mem_range.1 ((hm v).1 hv)⟩
    · simp
theorem bestBetween {f la : Nat} (hf : f < l.length) (hl : la < l.length) (h : f = la ↔ l.length = 1) : ∃ p c, impl_BestBetween.f l f la = some (up (f :: p.map Prod.fst), c, true) ∧ Cmp l.length (Wt l) la (2 ^ f) f 0 p c ∧
    ∀ r, OrdN l.length (f :: r) → r.getLastD f = la → c ≤ pathC (Wt l) f (r.map fun i => (i, false)) := by
  have hn := V.le
  have hcmp : ∀ r, OrdN l.length (f :: r) → r.getLastD f = la → Cmp l.length (Wt l) la (2 ^ f) f 0 (r.map fun i => (i, false)) (pathC (Wt l) f (r.map fun i => (i, false))) := by
    intro r ho e
    have := ord_cmp (W := Wt l) (fin := la) (a := f) (p := r.map fun i => (i, false)) (by rw [plain_fst]; exact ho) (.inr (by rw [plain_fst, e]))
    rw [plain_trues] at this
    exact this
  unfold impl_BestBetween.f
  rw [vb_true V 300 (by omega)]
  simp only [Option.bind_some]
  rw [if_pos ⟨trivial, by omega, by omega, by omega⟩, Int.toNat_natCast]
  have hb := orderF_best (l := l) (fin := la) V 0 (by omega) [f] (fun w hw => by rw [List.mem_singleton.1 hw]; exact hf) (List.pairwise_singleton ..)
  rw [show (((0 : Nat) : Nat) : Int) = 0 from rfl] at hb
  rcases hb with ⟨_, h2⟩ | ⟨w, hw, p, c, h1, h2, h3⟩
  · obtain ⟨r, hr, hr2⟩ := between_ord hf hl h
    exact absurd (hcmp r hr hr2) (h2 f (List.mem_singleton_self _) _ _)
  · obtain rfl := List.mem_singleton.1 hw
    exact ⟨p, c, by rw [h1], h2, fun r ho e => (h3 w (List.mem_singleton_self _) _ _ (hcmp r ho e)).1⟩
theorem bestBetween_no {f la : Nat} (h : ¬ (f = la ↔ l.length = 1)) : impl_BestBetween.f l f la = some ([], 0, false) := by
  unfold impl_BestBetween.f
  rw [vb_true V 300 (by omega)]
  simp only [Option.bind_some]
  rw [if_neg]
  rintro ⟨_, _, _, h2⟩
  exact h (by omega)
end
end Go.Proofs.Ytaapbnhggfmlpaa.B
end
section
set_option linter.unusedVariables false
namespace Go.Proofs.Ytaapbnhggfmlpaa.Pure
open Go.RowKit Go.Proofs.Ytaapbnhggfmlpaa.P Go.Proofs.YtaapbnhggfmlpaaW.PrintWords Go.Proofs.YtaapbnhggfmlpaaW.PrintLast Go.Proofs.Ytaapbnhggfmlpaa.A Go.Proofs.Ytaapbnhggfmlpaa.B
theorem last_getD : ∀ (r : List Nat) (a : Nat), (a :: r).getD r.length 0 = r.getLastD a
  | [], a => rfl
  | b :: r, a => by
    have := last_getD r b
    rw [List.getLastD_cons]
    simpa using this
theorem ends_iff {n a : Nat} {r : List Nat} (h : OrdN n (a :: r)) : a = r.getLastD a ↔ n = 1 := by
  obtain ⟨h1, h2⟩ := List.nodup_cons.1 h.nd
  have h3 := h.len
  simp at h3
  constructor
  · intro e
    by_cases hr : r = []
    · subst hr
      simpa using h3.symm
    · have := getLastD_mem r a hr
      rw [← e] at this
      exact absurd this h1
  · intro e
    have : r = [] := List.eq_nil_of_length_eq_zero (by omega)
    subst this
    rfl
section
variable {l : List (List Int)} (V : Valid l)
include V
/-- The least coupling of all orders, and two ends that have it. -/
theorem all_best : ∃ (w : Nat) (p : List (Nat × Bool)) (all : Int), impl_BestOrder.f l 0 = some (up (w :: p.map Prod.fst), all, true) ∧ 0 ≤ all ∧ w < l.length ∧ OrdN l.length (w :: p.map Prod.fst) ∧
    ∀ i j : Nat, i < l.length → j < l.length → (i = j ↔ l.length = 1) → ∃ r x, impl_BestBetween.f l i j = some (r, x, true) ∧ all ≤ x ∧ (i = w → j = (p.map Prod.fst).getLastD w → x = all) := by
  obtain ⟨w, p, c, h1, h2, h3, h4⟩ := bestOrder V 0 V.pos
  have ho := cmp_ord h2 h3
  have hb := h3.bound V h2
  obtain ⟨hc, ht⟩ := h3.cost
  refine ⟨w, p, c, h1, hb.1, h2, ho, fun i j hi hj hij => ?_⟩
  obtain ⟨p', x, g1, g2, g3⟩ := bestBetween V hi hj hij
  have ho' := cmp_ord hi g2
  obtain ⟨hx, ht'⟩ := g2.cost
  have hle := (h4 i p' ho' ht'.symm).1
  rw [← hx] at hle
  refine ⟨_, x, g1, hle, fun e1 e2 => ?_⟩
  subst e1
  have := g3 (p.map Prod.fst) ho e2.symm
  rw [← trues_zero p ht.symm, ← hc] at this
  omega
theorem loop1 {w : Nat} {p : List (Nat × Bool)} {all : Int} (h0 : 0 ≤ all)
    (hp : ∀ i j : Nat, i < l.length → j < l.length → (i = j ↔ l.length = 1) → ∃ r x, impl_BestBetween.f l i j = some (r, x, true) ∧ all ≤ x ∧ (i = w → j = (p.map Prod.fst).getLastD w → x = all))
    (hw : w = (p.map Prod.fst).getLastD w ↔ l.length = 1) (K i : Nat) (hi : i < l.length)
    (rest : ∀ (k : Nat) (found : Int), K ≤ k → (found = -1 ∨ all ≤ found) → (w < i + 1 → found = all) → laws_FnBetween.l0 k l.length all true found ((i + 1 : Nat) : Int) l = some true)
    (hl : (p.map Prod.fst).getLastD w < l.length) :
    ∀ (d j k : Nat) (found : Int), l.length - j = d → j ≤ l.length → K + 2 * d + 2 ≤ k → (found = -1 ∨ all ≤ found) → (w < i ∨ (w = i ∧ (p.map Prod.fst).getLastD w < j) → found = all) → laws_FnBetween.l1 k l.length all true found i j l = some true := by
  have hn := V.le
  intro d
  induction d with
  | zero =>
    intro j k found hd hj hk h1 h2
    obtain ⟨k, rfl⟩ : ∃ m, k = m + 1 := ⟨k - 1, by omega⟩
    simp only [laws_FnBetween.l1]
    rw [if_neg (by omega), w64s hi (by omega)]
    exact rest k found (by omega) h1 fun h => h2 (by omega)
  | succ d ih =>
    intro j k found hd hj hk h1 h2
    obtain ⟨k, rfl⟩ : ∃ m, k = m + 2 := ⟨k - 2, by omega⟩
    have hjl : j < l.length := by omega
    simp only [laws_FnBetween.l1, laws_FnBetween.j3]
    rw [if_pos (by omega), w64s hjl (by omega)]
    by_cases hij : i = j ↔ l.length = 1
    · obtain ⟨r, x, hr, hle, he⟩ := hp i j hi hjl hij
      have hb : (((i : Int) == (j : Int)) == ((l.length : Int) == 1)) = true := by
        rw [beq_iff_eq, Bool.eq_iff_iff, beq_iff_eq, beq_iff_eq]
        omega
      rw [hr, hb]
      simp only [Option.bind_some, bne_self_eq_false, Bool.false_eq_true, if_false, if_true]
      by_cases c : found < 0
      · rw [if_pos c]
        exact ih (j + 1) k x (by omega) (by omega) (by omega) (.inr hle) (fun h => by
          by_cases e : w = i ∧ (p.map Prod.fst).getLastD w = j
          · exact he e.1.symm e.2.symm
          · have := h2 (by omega)
            omega)
      · rw [if_neg c]
        by_cases c2 : x < found
        · simp only [c2, decide_true, if_true]
          exact ih (j + 1) k x (by omega) (by omega) (by omega) (.inr hle) (fun h => by
            by_cases e : w = i ∧ (p.map Prod.fst).getLastD w = j
            · exact he e.1.symm e.2.symm
            · have := h2 (by omega)
              omega)
        · simp only [c2, decide_false, Bool.false_eq_true, if_false]
          exact ih (j + 1) k found (by omega) (by omega) (by omega) h1 (fun h => by
            by_cases e : w = i ∧ (p.map Prod.fst).getLastD w = j
            · have := he e.1.symm e.2.symm
              omega
            · exact h2 (by omega))
    · have hb : (((i : Int) == (j : Int)) == ((l.length : Int) == 1)) = false := by
        rw [beq_eq_false_iff_ne]
        intro e
        rw [Bool.eq_iff_iff, beq_iff_eq, beq_iff_eq] at e
        exact hij (by omega)
      rw [bestBetween_no V hij, hb]
      simp only [Option.bind_some, bne_self_eq_false, Bool.false_eq_true, if_false]
      refine ih (j + 1) k found (by omega) (by omega) (by omega) h1 (fun h => h2 ?_)
      by_cases e : w = i ∧ (p.map Prod.fst).getLastD w = j
      · exact absurd (by rw [← e.1, ← e.2]; exact hw) hij
      · omega
theorem loop0 {w : Nat} {p : List (Nat × Bool)} {all : Int} (h0 : 0 ≤ all)
    (hp : ∀ i j : Nat, i < l.length → j < l.length → (i = j ↔ l.length = 1) → ∃ r x, impl_BestBetween.f l i j = some (r, x, true) ∧ all ≤ x ∧ (i = w → j = (p.map Prod.fst).getLastD w → x = all))
    (hw : w = (p.map Prod.fst).getLastD w ↔ l.length = 1) (hw2 : w < l.length) (hl : (p.map Prod.fst).getLastD w < l.length) :
    ∀ (d i k : Nat) (found : Int), l.length - i = d → i ≤ l.length → 50 * d + 1 ≤ k → (found = -1 ∨ all ≤ found) → (w < i → found = all) → laws_FnBetween.l0 k l.length all true found i l = some true := by
  have hn := V.le
  intro d
  induction d with
  | zero =>
    intro i k found hd hi hk h1 h2
    obtain ⟨k, rfl⟩ : ∃ m, k = m + 1 := ⟨k - 1, by omega⟩
    simp only [laws_FnBetween.l0]
    rw [if_neg (by omega), if_pos trivial, h2 (by omega)]
    simp
  | succ d ih =>
    intro i k found hd hi hk h1 h2
    obtain ⟨k, rfl⟩ : ∃ m, k = m + 1 := ⟨k - 1, by omega⟩
    simp only [laws_FnBetween.l0]
    rw [if_pos (by omega)]
    exact loop1 V h0 hp hw (50 * d + 1) i (by omega) (fun k found hk h1 h2 => ih (i + 1) k found (by omega) (by omega) hk h1 h2) hl l.length 0 k found (by omega) (by omega) (by omega) h1 (fun h => h2 (by omega))
end
theorem FnBetween : laws_FnBetween.Pure := by
  intro l0 l1 _ _ hw0 _ _ hw1
  obtain ⟨K, hK⟩ : ∃ K : Nat, 4999 ≤ K := ⟨_, Nat.le_refl _⟩
  refine ⟨K + 1, ?_⟩
  unfold laws_FnBetween.f laws_r8Long.f
  by_cases c0 : (l0.length : Int) > 48
  · rw [if_pos c0]; rfl
  rw [if_neg c0]
  by_cases c1 : (l1.length : Int) > 48
  · simp [c1]
  simp only [c1, decide_false, Option.bind_some, Bool.false_eq_true, if_false]
  obtain ⟨l, hl, V, _⟩ := r8Bundle (bytes_of (by omega) hw0) (K + 1) (by omega)
  have hn := V.le
  have hn1 := V.pos
  obtain ⟨ys, hy, hO⟩ := r8Order (bytes_of (by omega) hw1) l.length hn hn1 (K + 1) (by omega)
  rw [hl]
  simp only [Option.bind_some]
  rw [hy]
  simp only [Option.bind_some]
  obtain ⟨os, rfl, hos⟩ := hO.nat
  obtain ⟨a, rest, rfl⟩ : ∃ a rest, os = a :: rest := by
    cases os with
    | nil => have := hos.len; simp at this; omega
    | cons a rest => exact ⟨a, rest, rfl⟩
  have hlen := hos.len
  simp only [List.length_cons] at hlen
  have hup : (up (a :: rest)).length = l.length := by rw [up_length]; simp [hlen]
  have e0 : rd (up (a :: rest)) 0 = a := rfl
  have el : rd (up (a :: rest)) ((l.length : Int) - 1) = ((rest.getLastD a : Nat) : Int) := by
    rw [show (l.length : Int) - 1 = ((rest.length : Nat) : Int) by omega, rd_nat, up_getD_any, last_getD]
  rw [hup, w64 (x := (l.length : Int) - 1) (by omega), if_pos (by omega), if_pos (by omega), if_pos (by omega), e0, el]
  have ha : a < l.length := hos.lt a (List.mem_cons_self ..)
  have hla : rest.getLastD a < l.length := by
    by_cases h : rest = []
    · subst h; exact ha
    · exact hos.lt _ (List.mem_cons_of_mem _ (getLastD_mem rest a h))
  obtain ⟨p, c, h1, h2, h3⟩ := bestBetween V ha hla (ends_iff hos)
  have ho := cmp_ord ha h2
  obtain ⟨hc, ht⟩ := h2.cost
  have hlast := h2.last (by omega)
  rw [h1]
  simp only [Option.bind_some]
  rw [couplingOf V [] (by simp) (rise_nil _) ho (K + 1) (by omega), fl_nil, ← trues_zero p ht.symm, ← hc]
  simp only [Option.bind_some]
  rw [couplingOf V [] (by simp) (rise_nil _) hos (K + 1) (by omega), fl_nil]
  have hle := h3 rest hos rfl
  have hplen := ho.len
  have hup2 : (up (a :: p.map Prod.fst)).length = l.length := by rw [up_length]; exact hplen
  have e02 : rd (up (a :: p.map Prod.fst)) 0 = a := rfl
  have el2 : rd (up (a :: p.map Prod.fst)) ((l.length : Int) - 1) = ((rest.getLastD a : Nat) : Int) := by
    simp only [List.length_cons] at hplen
    rw [show (l.length : Int) - 1 = (((p.map Prod.fst).length : Nat) : Int) by omega, rd_nat, up_getD_any, last_getD, hlast]
  simp only [Option.bind_some, if_true]
  rw [hup2, e02, el2, if_pos (by omega), if_pos rfl, if_pos (by omega), if_pos rfl, decide_eq_false (by omega)]
  simp only [laws_FnBetween.j0, Bool.false_eq_true, if_false]
  obtain ⟨w, p2, all, g1, g2, g3, g4, g5⟩ := all_best V
  rw [g1]
  simp only [Option.bind_some]
  have hl2 : (p2.map Prod.fst).getLastD w < l.length := by
    by_cases h : p2.map Prod.fst = []
    · rw [h]; exact g3
    · exact g4.lt _ (List.mem_cons_of_mem _ (getLastD_mem _ w h))
  exact loop0 V g2 g5 (ends_iff g4) g3 hl2 l.length 0 K (-1) (by omega) (by omega) (by omega) (.inl rfl) (fun h => by omega)
end Go.Proofs.Ytaapbnhggfmlpaa.Pure
end
section
namespace Go.Proofs.Ytaapbnhggfmlpaa.fnBetween
open Go.ChangeShapes Go.WideShapes Go.ChangeAt Go.RowKit
open Go.ChangeMaps (open_string shut_string)
set_option linter.unusedVariables false
theorem own : ownKnob Try.prog.godebug = none := by kernel_rfl
theorem laidOut : laidOutB Try.prog = true := by kernel_rfl
def IsRow (k : IntKind) (w : World) (a : Option Addr) (len cap : Nat) (zs : List Int) : Prop :=
  (a = none ∧ len = 0 ∧ cap = 0 ∧ zs = []) ∨
  ∃ x, a = some x ∧ len ≤ cap ∧ cap ≤ maxLen ∧ zs.length = cap ∧ (∀ i, i < zs.length → w.cell? (x.add i) = some (.int k (zs.getD i 0))) ∧ ∀ n ∈ zs, (Lit.int k n).wf = true
set_option maxRecDepth 100000 in
theorem lifted (os : Os) (started : os.Started) (H : Type) (enc : TypeId × Value → H) :
    ReturnsInHanded {} Try.checked os 6 .any (Rows.fnBetweenSpec.pre6 enc Try.prog Try.f6 Rows.fnBetweenRow.domain false) (Rows.fnBetweenSpec.post enc Try.prog Try.f6 false true false false) := by
  refine returnsInHanded_of_change_sized (C := Try.checked) own started (by kernel_rfl) Try.func6
    (ChangeSpec.witness6 (enc := enc) (C := Try.checked) false ⟨#[], #[.slice none 0 0, .slice none 0 0], []⟩ 8 (by kernel_rfl) (by kernel_rfl) (by kernel_rfl) (by kernel_rfl)) ?_
  intro W base args ds gs before hval0 hW hcnd hsz0 _
  have hsz : (DataW.weightsEach Try.prog (Try.f6.params.toList ++ Rows.fnBetweenSpec.plain.varTypes Try.prog) (ds ++ gs)).all (· ≤ reachBytes) = true := hsz0
  have hval : ∀ (j : Nat) t v, Try.f6.params[j]? = some t → args[j]? = some v → Value.okWide Try.prog W .any base t v := hval0
  have hW' := hW
  obtain ⟨p, q, hA0, hV, rfl, hfz, hnd⟩ := hW
  have hA : DataW.TrodAll enc Try.prog W 0 (fun _ => true) true Try.f6.params.toList args.toList ds p := hA0
  rw [Try.params6] at hA hval hsz
  obtain ⟨v0, vs0, d0, ds0, p0, q0, hargs, rfl, rfl, h0, r0⟩ := trodAll_cons hA
  obtain ⟨v1, vs1, d1, ds1, p1, q1, rfl, rfl, rfl, h1, r1⟩ := trodAll_cons r0
  obtain ⟨rfl, rfl, rfl⟩ := trodAll_nil r1
  obtain rfl : args = #[v0, v1] := by cases args; simp_all
  obtain ⟨rfl, rfl⟩ := trodVars_none hV
  obtain ⟨a0, len0, cap0, rfl⟩ := okWide_slice Try.underlying22 (hval 0 22 v0 rfl rfl)
  have k0 := h0
  have lt0 : ∀ x ∈ p0, x.block < W.heap.size := by obtain ⟨m, hm⟩ := k0; exact DataW.trod_lt m _ _ _ hm
  obtain ⟨z0, w0⟩ : ∃ zs, IsRow .u8 W a0 len0 cap0 zs := by
    obtain ⟨fuel, hf⟩ := h0
    rcases open_ints Try.underlying22 Try.underlying5 (by kernel_rfl) hf with ⟨hcs, _⟩ | ⟨x, l, c, zs, hcs, _, hl, hm, hz, _, hcell, hwz⟩
    · simp [Value.cells] at hcs
      obtain ⟨rfl, rfl, rfl⟩ := hcs
      exact ⟨[], .inl ⟨rfl, rfl, rfl, rfl⟩⟩
    · simp [Value.cells] at hcs
      obtain ⟨rfl, rfl, rfl⟩ := hcs
      exact ⟨zs, .inr ⟨_, rfl, hl, hm, by simpa using hz, hcell, hwz⟩⟩
  have y0 : len0 * 1 ≤ 140737488351232 := YtaapbnhggfmlpaaW.PrintWords.sized_ints hsz (j := 0) (t := 22) rfl rfl Try.underlying22 Try.underlying5 (by kernel_rfl) (by kernel_rfl) h0
  obtain ⟨a1, len1, cap1, rfl⟩ := okWide_slice Try.underlying22 (hval 1 22 v1 rfl rfl)
  have k1 := h1
  have lt1 : ∀ x ∈ p1, x.block < W.heap.size := by obtain ⟨m, hm⟩ := k1; exact DataW.trod_lt m _ _ _ hm
  obtain ⟨z1, w1⟩ : ∃ zs, IsRow .u8 W a1 len1 cap1 zs := by
    obtain ⟨fuel, hf⟩ := h1
    rcases open_ints Try.underlying22 Try.underlying5 (by kernel_rfl) hf with ⟨hcs, _⟩ | ⟨x, l, c, zs, hcs, _, hl, hm, hz, _, hcell, hwz⟩
    · simp [Value.cells] at hcs
      obtain ⟨rfl, rfl, rfl⟩ := hcs
      exact ⟨[], .inl ⟨rfl, rfl, rfl, rfl⟩⟩
    · simp [Value.cells] at hcs
      obtain ⟨rfl, rfl, rfl⟩ := hcs
      exact ⟨zs, .inr ⟨_, rfl, hl, hm, by simpa using hz, hcell, hwz⟩⟩
  have y1 : len1 * 1 ≤ 140737488351232 := YtaapbnhggfmlpaaW.PrintWords.sized_ints hsz (j := 1) (t := 22) rfl rfl Try.underlying22 Try.underlying5 (by kernel_rfl) (by kernel_rfl) h1
  clear hA0 hval0 hsz0 hsz
  refine (P.laws_FnBetween.walk Pure.FnBetween a0 len0 cap0 z0 a1 len1 cap1 z1 W w0 y0 w1 y1).mono fun e W' ⟨he, bel⟩ => ?_
  subst he
  exact ⟨_, rfl, _, _, _, [], _, [], hW', trodAll_mk1 (shut_bool Try.underlying4 _), (trodAll_cons_mk (Below.trod laidOut (by kernel_rfl) (of_decide_eq_true (by kernel_rfl)) k0 bel lt0) (trodAll_cons_mk (Below.trod laidOut (by kernel_rfl) (of_decide_eq_true (by kernel_rfl)) k1 bel lt1) trodAll_mk0)), rfl, bel.frame _, fun h => by cases h⟩
theorem over : Rows.fnBetweenRow.holds Try.pinned (OpenSpec.ofChange Rows.fnBetweenSpec) :=
  OpenClaim.holds_of_wide 6 Try.f6 rfl rfl rfl rfl rfl rfl rfl ⟨rfl, rfl, rfl, rfl, rfl⟩ rfl rfl rfl rfl rfl (by kernel_rfl) Try.func6 (by kernel_rfl)
    (of_decide_eq_true (by kernel_rfl)) (by unfold Func.isWrapper; first | (rw [if_pos (by decide +kernel)]; kernel_rfl) | (rw [if_neg (by decide +kernel)]; exact ⟨rfl, rfl⟩))
    (fun os started H enc _ => lifted os started H enc)
theorem proved : Rows.FnBetweenSaid := over
#print axioms proved
end Go.Proofs.Ytaapbnhggfmlpaa.fnBetween
namespace Go.Proofs.Ytaapbnhggfmlpaa
/-- The row, under a short name, for the claim. -/
theorem fnBetween_holds : Rows.FnBetweenSaid := fnBetween.proved
end Go.Proofs.Ytaapbnhggfmlpaa
end
