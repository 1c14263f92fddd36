/- Lemmas and contracts of functions, part 8 of 9, for this law: The law FnExactBestBetween holds for every input. -/
import Derived.Test.YtaapbnhggfmlpaaExBetQ3
import Derived.Test.YtaapbnhggfmlpaaExBetQ2
import Derived.Test.YtaapbnhggfmlpaaExBetQ5
import Derived.Test.YtaapbnhggfmlpaaExBetQ1
import Derived.Laws.BitsLemmas
section
set_option linter.unusedVariables false
namespace Go.Proofs.Ytaapbnhggfmlpaa.A
open Go.RowKit Go.Proofs.Ytaapbnhggfmlpaa.P Go.Proofs.YtaapbnhggfmlpaaW.PrintWords Go.Proofs.Ytaapbnhggfmlpaa.M
open Go.Proofs.Ytaapbnhggfmlpaa.B (Valid Wt)
/-- x is the least of the numbers with P, or -1 if there is none. -/
def IsMin (P : Int → Prop) (x : Int) : Prop := (x = -1 ∧ ∀ c, ¬ P c) ∨ (0 ≤ x ∧ P x ∧ ∀ c, P c → x ≤ c)
theorem IsMin.unique {P : Int → Prop} {x y : Int} (h : IsMin P x) (k : IsMin P y) : x = y := by
  rcases h with ⟨rfl, h⟩ | ⟨h0, h1, h2⟩ <;> rcases k with ⟨rfl, k⟩ | ⟨k0, k1, k2⟩
  · rfl
  · exact absurd k1 (h _)
  · exact absurd h1 (k _)
  · have := h2 _ k1
    have := k2 _ h1
    omega
theorem IsMin.congr {P Q : Int → Prop} {x : Int} (h : IsMin P x) (e : ∀ c, P c ↔ Q c) : IsMin Q x := by
  rcases h with ⟨rfl, h⟩ | ⟨h0, h1, h2⟩
  · exact .inl ⟨rfl, fun c hc => h c ((e c).2 hc)⟩
  · exact .inr ⟨h0, (e _).1 h1, fun c hc => h2 c ((e c).2 hc)⟩
theorem IsMin.none {P : Int → Prop} {x : Int} (h : IsMin P x) (hn : ∀ c, ¬ P c) : x = -1 := by
  rcases h with ⟨rfl, _⟩ | ⟨_, h1, _⟩
  · rfl
  · exact absurd h1 (hn _)
theorem IsMin.of_neg {P : Int → Prop} {x : Int} (h : IsMin P x) (hx : x < 0) : ∀ c, ¬ P c := by
  rcases h with ⟨_, h⟩ | ⟨h0, _⟩
  · exact h
  · omega
theorem IsMin.mem {P : Int → Prop} {x : Int} (h : IsMin P x) (hx : 0 ≤ x) : P x := by
  rcases h with ⟨rfl, _⟩ | ⟨_, h1, _⟩
  · omega
  · exact h1
theorem IsMin.le {P : Int → Prop} {x : Int} (h : IsMin P x) {c : Int} (hc : P c) : 0 ≤ x ∧ x ≤ c := by
  rcases h with ⟨_, h⟩ | ⟨h0, _, h2⟩
  · exact absurd hc (h c)
  · exact ⟨h0, h2 c hc⟩
/-- A way to complete an order: the wires that follow, each with or without a shield ahead of it, and the coupling. -/
inductive Cmp (n : Nat) (W : Nat → Nat → Int) (fin : Int) : Nat → Nat → Nat → List (Nat × Bool) → Int → Prop
  | done {L : Nat} : (fin < 0 ∨ (L : Int) = fin) → Cmp n W fin (2 ^ n - 1) L 0 [] 0
  | step {D L S i : Nat} {p : List (Nat × Bool)} {c : Int} : i < n → D.testBit i = false → Cmp n W fin (D ||| 2 ^ i) i S p c → Cmp n W fin D L S ((i, false) :: p) (W L i + c)
  | hop {D L S i : Nat} {p : List (Nat × Bool)} {c : Int} : i < n → D.testBit i = false → Cmp n W fin (D ||| 2 ^ i) i S p c → Cmp n W fin D L (S + 1) ((i, true) :: p) c
section
variable {l : List (List Int)} {fin : Int}
theorem Cmp.len {n : Nat} {W : Nat → Nat → Int} {D L S : Nat} {p : List (Nat × Bool)} {c : Int} (h : Cmp n W fin D L S p c) : p.length = ucnt n D := by
  induction h with
  | done _ => exact ((ucnt_zero n (2 ^ n - 1) (by have := Nat.one_le_two_pow (n := n); omega)).2 rfl).symm
  | @step D L S i p c hi hb _ ih =>
    have := ucnt_or n D i hb
    rw [if_pos hi] at this
    simp [ih]; omega
  | @hop D L S i p c hi hb _ ih =>
    have := ucnt_or n D i hb
    rw [if_pos hi] at this
    simp [ih]; omega
theorem Cmp.bound (V : Valid l) {D L S : Nat} {p : List (Nat × Bool)} {c : Int} (h : Cmp l.length (Wt l) fin D L S p c) (hL : L < l.length) : 0 ≤ c ∧ c ≤ 1000 * p.length := by
  induction h with
  | done _ => simp
  | @step D L S i p c hi hb _ ih =>
    have h1 := ih hi
    have h2 := V.bound L i hL hi
    simp only [List.length_cons]
    push_cast
    omega
  | @hop D L S i p c hi hb _ ih =>
    have h1 := ih hi
    simp only [List.length_cons]
    push_cast
    omega
/-- A wire that has a place does not follow. -/
theorem Cmp.not_mem {n : Nat} {W : Nat → Nat → Int} {D L S : Nat} {p : List (Nat × Bool)} {c : Int} (h : Cmp n W fin D L S p c) : ∀ j, D.testBit j = true → ∀ x ∈ p, x.1 ≠ j := by
  induction h with
  | done _ => intro j _ x hx; cases hx
  | @step D L S i p c hi hb _ ih =>
    intro j hj x hx
    rcases List.mem_cons.1 hx with rfl | hx
    · rintro rfl
      rw [hb] at hj
      cases hj
    · exact ih j (by rw [testBit_or_pow, hj]; rfl) x hx
  | @hop D L S i p c hi hb _ ih =>
    intro j hj x hx
    rcases List.mem_cons.1 hx with rfl | hx
    · rintro rfl
      rw [hb] at hj
      cases hj
    · exact ih j (by rw [testBit_or_pow, hj]; rfl) x hx
/-- The last wire is the one that is asked for. -/
theorem Cmp.last {n : Nat} {W : Nat → Nat → Int} {D L S : Nat} {p : List (Nat × Bool)} {c : Int} (h : Cmp n W fin D L S p c) (hf : 0 ≤ fin) : (((p.map Prod.fst).getLastD L : Nat) : Int) = fin := by
  induction h with
  | done h =>
    rcases h with h | h
    · omega
    · exact h
  | @step D L S i p c hi hb _ ih => rw [List.map_cons, List.getLastD_cons]; exact ih
  | @hop D L S i p c hi hb _ ih => rw [List.map_cons, List.getLastD_cons]; exact ih
theorem getLastD_mem {α : Type} : ∀ (xs : List α) (a : α), xs ≠ [] → xs.getLastD a ∈ xs := by
  intro xs
  induction xs with
  | nil => exact fun a h => absurd rfl h
  | cons x xs ih =>
    intro a _
    rw [List.getLastD_cons]
    by_cases h : xs = []
    · subst h; simp
    · exact List.mem_cons_of_mem _ (ih x h)
/-- What the planner passes by cannot be completed. -/
theorem Cmp.pruned {n : Nat} {W : Nat → Nat → Int} {D S i : Nat} {p : List (Nat × Bool)} {c : Int} (hn : n ≤ 9) (hD : D < 2 ^ n) (hi : i < n) (hf : 0 ≤ fin) (hs : ((i : Int) == fin) ≠ (setb D i == full n)) : ¬ Cmp n W fin (D ||| 2 ^ i) i S p c := by
  intro h
  have hl := h.last hf
  have h9 := pow9 hn
  have e : (setb D i == full n) = decide (D ||| 2 ^ i = 2 ^ n - 1) := by
    rw [setb_nat D i (by omega) (by omega), full_nat n hn, Bool.eq_iff_iff, beq_iff_eq, decide_eq_true_eq]
    omega
  rw [e] at hs
  have hlt := or_lt hD hi
  by_cases hfull : D ||| 2 ^ i = 2 ^ n - 1
  · have hp := h.len
    rw [(ucnt_zero n _ hlt).2 hfull] at hp
    have : p = [] := List.eq_nil_of_length_eq_zero hp
    subst this
    simp at hl
    rw [decide_eq_true hfull, hl] at hs
    simp at hs
  · have hp := h.len
    have hne : ucnt n (D ||| 2 ^ i) ≠ 0 := fun e => hfull ((ucnt_zero n _ hlt).1 e)
    have hpn : p.map Prod.fst ≠ [] := by
      intro e
      have := congrArg List.length e
      simp at this
      subst this
      simp at hp
      omega
    have hm := getLastD_mem (p.map Prod.fst) i hpn
    obtain ⟨x, hx, hx2⟩ := List.mem_map.1 hm
    rw [decide_eq_false hfull] at hs
    have hfi : (i : Int) = fin := by
      by_cases e : (i : Int) = fin
      · exact e
      · have : ((i : Int) == fin) = false := by simpa using e
        rw [this] at hs
        exact absurd rfl hs
    rw [← hfi] at hl
    have : (p.map Prod.fst).getLastD i = i := by omega
    rw [this] at hx2
    exact h.not_mem i (by rw [testBit_or_pow]; simp) x hx hx2
theorem mem_itm {D L S i : Nat} (hn : l.length ≤ 9) (hD : D < 2 ^ l.length) (hi : i < l.length) (x : Itm) :
    x ∈ itm l fin ⟨D, L, S⟩ i ↔ ¬ skipb l.length fin D i ∧ (x = ⟨i, Wt l L i, ⟨(D ||| 2 ^ i : Nat), i, S⟩⟩ ∨ ∃ S' : Nat, S = S' + 1 ∧ x = ⟨i, 0, ⟨(D ||| 2 ^ i : Nat), i, S'⟩⟩) := by
  have h9 := pow9 hn
  have e := setb_nat D i (by omega) (by omega)
  unfold itm
  by_cases hs : skipb l.length fin D i
  · rw [if_pos hs]
    simp [hs]
  · rw [if_neg hs, List.mem_cons]
    simp only [e]
    constructor
    · rintro (rfl | h)
      · exact ⟨hs, .inl rfl⟩
      · by_cases hS : (0 : Int) < (S : Int)
        · rw [if_pos hS] at h
          obtain rfl := List.mem_singleton.1 h
          exact ⟨hs, .inr ⟨S - 1, by omega, by rw [show ((S - 1 : Nat) : Int) = (S : Int) - 1 by omega]⟩⟩
        · rw [if_neg hS] at h
          cases h
    · rintro ⟨_, rfl | ⟨S', rfl, rfl⟩⟩
      · exact .inl rfl
      · refine .inr ?_
        rw [if_pos (by omega)]
        simp
theorem skipb_nat {n D i : Nat} (hn : n ≤ 9) (hD : D < 2 ^ n) : skipb n fin D i ↔ D.testBit i = true ∨ (0 ≤ fin ∧ ((i : Int) == fin) ≠ (setb D i == full n)) := by
  unfold skipb
  have h9 := pow9 hn
  rw [tst_nat D i (by omega)]
theorem mem_itms {D L S : Nat} (hn : l.length ≤ 9) (hD : D < 2 ^ l.length) (x : Itm) :
    x ∈ itms l fin ⟨D, L, S⟩ l.length ↔ ∃ i, i < l.length ∧ ¬ skipb l.length fin D i ∧ (x = ⟨i, Wt l L i, ⟨(D ||| 2 ^ i : Nat), i, S⟩⟩ ∨ ∃ S' : Nat, S = S' + 1 ∧ x = ⟨i, 0, ⟨(D ||| 2 ^ i : Nat), i, S'⟩⟩) := by
  unfold itms
  rw [List.mem_flatMap]
  constructor
  · rintro ⟨i, hi, hx⟩
    have hi := List.mem_range.1 hi
    exact ⟨i, hi, (mem_itm hn hD hi x).1 hx⟩
  · rintro ⟨i, hi, hx⟩
    exact ⟨i, List.mem_range.2 hi, (mem_itm hn hD hi x).2 hx⟩
theorem fold_min {F : T3 → Int} {P : T3 → Int → Prop} : ∀ (xs : List Itm) (Q : Int → Prop) (a : Int), IsMin Q a → (∀ x ∈ xs, IsMin (P x.t) (F x.t)) → (∀ x ∈ xs, 0 ≤ x.c ∧ x.c ≤ 1000 ∧ ∀ c, P x.t c → 0 ≤ c ∧ c ≤ 9000) →
    IsMin (fun c => Q c ∨ ∃ x ∈ xs, ∃ c', P x.t c' ∧ c = c' + x.c) (xs.foldl (stepF F) a) := by
  intro xs
  induction xs with
  | nil => exact fun Q a h _ _ => h.congr fun c => by simp
  | cons x xs ih =>
    intro Q a h hF hb
    rw [List.foldl_cons]
    have hx := hF x (List.mem_cons_self ..)
    obtain ⟨b0, b1, b2⟩ := hb x (List.mem_cons_self ..)
    have hstep : IsMin (fun c => Q c ∨ ∃ c', P x.t c' ∧ c = c' + x.c) (stepF F a x) := by
      rcases hx with ⟨hx0, hx1⟩ | ⟨hx0, hx1, hx2⟩
      · have e : stepF F a x = a := if_neg (by omega)
        rw [e]
        exact h.congr fun c => ⟨.inl, fun h => h.elim id fun ⟨c', h, _⟩ => absurd h (hx1 c')⟩
      · have hw : wrap64 (F x.t + x.c) = F x.t + x.c := Go.IntWalk.wrap64_in _ (by have := b2 _ hx1; omega)
        unfold stepF
        rw [hw]
        rcases h with ⟨rfl, h⟩ | ⟨h0, h1, h2⟩
        · rw [if_pos ⟨hx0, .inl (by omega)⟩]
          refine .inr ⟨by omega, .inr ⟨_, hx1, rfl⟩, ?_⟩
          rintro c (hc | ⟨c', hc, rfl⟩)
          · exact absurd hc (h c)
          · have := hx2 c' hc
            omega
        · by_cases hlt : F x.t + x.c < a
          · rw [if_pos ⟨hx0, .inr hlt⟩]
            refine .inr ⟨by omega, .inr ⟨_, hx1, rfl⟩, ?_⟩
            rintro c (hc | ⟨c', hc, rfl⟩)
            · have := h2 c hc
              omega
            · have := hx2 c' hc
              omega
          · rw [if_neg (by omega)]
            refine .inr ⟨h0, .inl h1, ?_⟩
            rintro c (hc | ⟨c', hc, rfl⟩)
            · exact h2 c hc
            · have := hx2 c' hc
              omega
    refine (ih _ _ hstep (fun y hy => hF y (List.mem_cons_of_mem _ hy)) (fun y hy => hb y (List.mem_cons_of_mem _ hy))).congr fun c => ?_
    constructor
    · rintro ((a | ⟨c', h⟩) | ⟨y, hy, h⟩)
      · exact .inl a
      · exact .inr ⟨x, List.mem_cons_self .., c', h⟩
      · exact .inr ⟨y, List.mem_cons_of_mem _ hy, h⟩
    · rintro (a | ⟨y, hy, h⟩)
      · exact .inl (.inl a)
      · rcases List.mem_cons.1 hy with rfl | hy
        · exact .inl (.inr h)
        · exact .inr ⟨y, hy, h⟩
/-- The tasks that are told as numbers. -/
def CT (l : List (List Int)) (fin : Int) (t : T3) (c : Int) : Prop := ∃ p, Cmp l.length (Wt l) fin t.d.toNat t.l.toNat t.s.toNat p c
theorem lf_min (V : Valid l) : ∀ (k : Nat) (t : T3), tcnt l.length t = k → Tk l.length t → IsMin (CT l fin t) (lf l fin t) := by
  have hn := V.le
  intro k
  induction k using Nat.strongRecOn with
  | _ k ih =>
    intro t hk ht
    have ht0 := ht
    obtain ⟨D, L, S, rfl, hD, hL, hS⟩ := ht
    have h9 := pow9 hn
    have hfn := full_nat _ hn
    by_cases hd : (D : Int) = full l.length
    · have hDf : D = 2 ^ l.length - 1 := by rw [hfn] at hd; omega
      rw [lf_full (l := l) (fin := fin) (t := ⟨D, L, S⟩) hd]
      have hp : ∀ c, CT l fin ⟨D, L, S⟩ c ↔ S = 0 ∧ (fin < 0 ∨ (L : Int) = fin) ∧ c = 0 := by
        intro c
        constructor
        · rintro ⟨p, hp⟩
          have hlen := hp.len
          simp only [Int.toNat_natCast] at hp hlen
          rw [(ucnt_zero _ _ hD).2 hDf] at hlen
          have : p = [] := List.eq_nil_of_length_eq_zero hlen
          subst this
          generalize hS' : S = S2 at hp
          cases hp with
          | done h => exact ⟨hS'.symm ▸ rfl, h, rfl⟩
        · rintro ⟨rfl, h, rfl⟩
          refine ⟨[], ?_⟩
          simp only [Int.toNat_natCast, hDf]
          exact Cmp.done h
      refine IsMin.congr ?_ fun c => (hp c).symm
      unfold baseF
      by_cases hc : 0 < (S : Int) ∨ (0 ≤ fin ∧ (L : Int) ≠ fin)
      · rw [if_pos hc]
        refine .inl ⟨rfl, ?_⟩
        rintro c ⟨h1, h2, _⟩
        rcases hc with hc | hc
        · omega
        · rcases h2 with h2 | h2
          · omega
          · exact hc.2 h2
      · rw [if_neg hc]
        refine .inr ⟨Int.le_refl _, ⟨by omega, ?_, rfl⟩, fun c h => by omega⟩
        by_cases h : fin < 0
        · exact .inl h
        · exact .inr (Classical.byContradiction fun h2 => hc (.inr ⟨by omega, h2⟩))
    · rw [lf_eq hn ht0 hd]
      have hok := itms_ok (fin := fin) hn ht0
      have hDne : D ≠ 2 ^ l.length - 1 := fun e => hd (by rw [hfn, ← e])
      refine (fold_min (P := CT l fin) (itms l fin ⟨D, L, S⟩ l.length) (fun _ => False) (-1) (.inl ⟨rfl, fun _ h => h⟩) ?_ ?_).congr fun c => ?_
      · intro x hx
        obtain ⟨h1, h2, _⟩ := hok x hx
        exact ih (tcnt l.length x.t) (by omega) x.t rfl h1
      · intro x hx
        obtain ⟨i, hi, hns, hx2⟩ := (mem_itms hn hD x).1 hx
        have hb : ∀ c, CT l fin x.t c → 0 ≤ c ∧ c ≤ 9000 := by
          rintro c ⟨p, hp⟩
          have h1 := hp.len
          have h2 := ucnt_le l.length x.t.d.toNat
          have h3 := hp.bound V (by rcases hx2 with rfl | ⟨S', _, rfl⟩ <;> simpa using hi)
          omega
        rcases hx2 with rfl | ⟨S', _, rfl⟩
        · have := V.bound L i hL hi
          exact ⟨this.1, this.2, hb⟩
        · exact ⟨by simp, by simp, hb⟩
      · constructor
        · rintro (h | ⟨x, hx, c', ⟨p, hp⟩, rfl⟩)
          · exact h.elim
          · obtain ⟨i, hi, hns, hx2⟩ := (mem_itms hn hD x).1 hx
            rw [skipb_nat hn hD] at hns
            have hbit : D.testBit i = false := by
              cases hb : D.testBit i
              · rfl
              · exact absurd (.inl hb) hns
            rcases hx2 with rfl | ⟨S', rfl, rfl⟩
            · simp only [Int.toNat_natCast] at hp
              refine ⟨(i, false) :: p, ?_⟩
              simp only [Int.toNat_natCast]
              rw [Int.add_comm]
              exact .step hi hbit hp
            · simp only [Int.toNat_natCast] at hp
              refine ⟨(i, true) :: p, ?_⟩
              simp only [Int.toNat_natCast, Int.add_zero]
              exact .hop hi hbit hp
        · rintro ⟨p, hp⟩
          simp only [Int.toNat_natCast] at hp
          refine .inr ?_
          generalize hS' : S = S2 at hp
          cases hp with
          | done h => exact absurd rfl hDne
          | @step _ _ _ i p c hi hbit h =>
            subst hS'
            refine ⟨⟨i, Wt l L i, ⟨(D ||| 2 ^ i : Nat), i, S⟩⟩, (mem_itms hn hD _).2 ⟨i, hi, ?_, .inl rfl⟩, c, ⟨p, by simpa using h⟩, by simp [Int.add_comm]⟩
            rw [skipb_nat hn hD]
            rintro (h1 | ⟨h1, h2⟩)
            · rw [hbit] at h1; cases h1
            · exact Cmp.pruned hn hD hi h1 h2 h
          | @hop _ _ S' i p c hi hbit h =>
            subst hS'
            refine ⟨⟨i, 0, ⟨(D ||| 2 ^ i : Nat), i, S'⟩⟩, (mem_itms hn hD _).2 ⟨i, hi, ?_, .inr ⟨S', rfl, rfl⟩⟩, c, ⟨p, by simpa using h⟩, by simp⟩
            rw [skipb_nat hn hD]
            rintro (h1 | ⟨h1, h2⟩)
            · rw [hbit] at h1; cases h1
            · exact Cmp.pruned hn hD hi h1 h2 h
end
end Go.Proofs.Ytaapbnhggfmlpaa.A
end
section
set_option linter.unusedVariables false
namespace Go.Proofs.Ytaapbnhggfmlpaa.A
open Go.RowKit Go.Proofs.Ytaapbnhggfmlpaa.P Go.Proofs.YtaapbnhggfmlpaaW.PrintWords Go.Proofs.Ytaapbnhggfmlpaa.M
open Go.Proofs.Ytaapbnhggfmlpaa.B (Valid Wt up up_length)
def lexLE : List Nat → List Nat → Prop
  | [], _ => True
  | _ :: _, [] => False
  | a :: as_, b :: bs => a < b ∨ (a = b ∧ lexLE as_ bs)
/-- The coupling along a way, by whether a shield stands ahead of each wire. -/
def pathC (W : Nat → Nat → Int) : Nat → List (Nat × Bool) → Int
  | _, [] => 0
  | a, (i, b) :: p => (if b = true then 0 else W a i) + pathC W i p
def trues (p : List (Nat × Bool)) : Nat := (p.filter fun x => x.2).length
theorem Cmp.nodup {n : Nat} {W : Nat → Nat → Int} {fin : Int} {D L S : Nat} {p : List (Nat × Bool)} {c : Int} (h : Cmp n W fin D L S p c) : (p.map Prod.fst).Nodup ∧ ∀ i ∈ p.map Prod.fst, i < n ∧ D.testBit i = false := by
  induction h with
  | done _ => exact ⟨List.nodup_nil, fun i hi => by cases hi⟩
  | @step D L S i p c hi hb h ih =>
    refine ⟨List.nodup_cons.2 ⟨fun hm => ?_, ih.1⟩, fun j hj => ?_⟩
    · have := (ih.2 i hm).2
      rw [testBit_or_pow] at this
      simp at this
    · rcases List.mem_cons.1 hj with rfl | hj
      · exact ⟨hi, hb⟩
      · have := ih.2 j hj
        rw [testBit_or_pow] at this
        simp at this
        exact ⟨this.1, this.2.1⟩
  | @hop D L S i p c hi hb h ih =>
    refine ⟨List.nodup_cons.2 ⟨fun hm => ?_, ih.1⟩, fun j hj => ?_⟩
    · have := (ih.2 i hm).2
      rw [testBit_or_pow] at this
      simp at this
    · rcases List.mem_cons.1 hj with rfl | hj
      · exact ⟨hi, hb⟩
      · have := ih.2 j hj
        rw [testBit_or_pow] at this
        simp at this
        exact ⟨this.1, this.2.1⟩
theorem Cmp.of {n : Nat} {W : Nat → Nat → Int} {fin : Int} : ∀ (p : List (Nat × Bool)) (D L : Nat), D < 2 ^ n → (p.map Prod.fst).Nodup → (∀ i ∈ p.map Prod.fst, i < n ∧ D.testBit i = false) → p.length = ucnt n D → (fin < 0 ∨ (((p.map Prod.fst).getLastD L : Nat) : Int) = fin) → Cmp n W fin D L (trues p) p (pathC W L p) := by
  intro p
  induction p with
  | nil =>
    intro D L hD _ _ hl hf
    have : D = 2 ^ n - 1 := (ucnt_zero n D hD).1 hl.symm
    subst this
    exact .done hf
  | cons x p ih =>
    intro D L hD hn hm hl hf
    obtain ⟨i, b⟩ := x
    rw [List.map_cons] at hn hm
    obtain ⟨hn1, hn2⟩ := List.nodup_cons.1 hn
    obtain ⟨hi, hb⟩ := hm i (List.mem_cons_self ..)
    have hc := ucnt_or n D i hb
    rw [if_pos hi] at hc
    have h := ih (D ||| 2 ^ i) i (or_lt hD hi) hn2 (fun j hj => ⟨(hm j (List.mem_cons_of_mem _ hj)).1, by
      rw [testBit_or_pow, (hm j (List.mem_cons_of_mem _ hj)).2]
      simp
      rintro rfl
      exact hn1 hj⟩) (by simp at hl; omega) (by
      rw [List.map_cons, List.getLastD_cons] at hf
      exact hf)
    cases b with
    | false =>
      have e : trues ((i, false) :: p) = trues p := by simp [trues]
      have e2 : pathC W L ((i, false) :: p) = W L i + pathC W i p := by simp [pathC]
      rw [e, e2]
      exact .step hi hb h
    | true =>
      have e : trues ((i, true) :: p) = trues p + 1 := by simp [trues]
      have e2 : pathC W L ((i, true) :: p) = pathC W i p := by simp [pathC]
      rw [e, e2]
      exact .hop hi hb h
section
variable {l : List (List Int)} {fin : Int}
theorem cmp_item (V : Valid l) {D L S : Nat} (hD : D < 2 ^ l.length) {p : List (Nat × Bool)} {c : Int} (h : Cmp l.length (Wt l) fin D L S p c) (hp : D ≠ 2 ^ l.length - 1) :
    ∃ x ∈ itms l fin ⟨D, L, S⟩ l.length, ∃ b q c', p = (x.w, b) :: q ∧ c = c' + x.c ∧ Cmp l.length (Wt l) fin x.t.d.toNat x.t.l.toNat x.t.s.toNat q c' := by
  have hn := V.le
  cases h with
  | done h => exact absurd rfl hp
  | @step _ _ _ i p c hi hbit h =>
    refine ⟨⟨i, Wt l L i, ⟨(D ||| 2 ^ i : Nat), i, S⟩⟩, (mem_itms hn hD _).2 ⟨i, hi, ?_, .inl rfl⟩, false, p, c, rfl, Int.add_comm .., by simpa using h⟩
    rw [skipb_nat hn hD]
    rintro (h1 | ⟨h1, h2⟩)
    · rw [hbit] at h1; cases h1
    · exact Cmp.pruned hn hD hi h1 h2 h
  | @hop _ _ S' i p c hi hbit h =>
    refine ⟨⟨i, 0, ⟨(D ||| 2 ^ i : Nat), i, S'⟩⟩, (mem_itms hn hD _).2 ⟨i, hi, ?_, .inr ⟨S', rfl, rfl⟩⟩, true, p, c, rfl, by simp, by simpa using h⟩
    rw [skipb_nat hn hD]
    rintro (h1 | ⟨h1, h2⟩)
    · rw [hbit] at h1; cases h1
    · exact Cmp.pruned hn hD hi h1 h2 h
theorem item_cmp (V : Valid l) {D L S : Nat} (hD : D < 2 ^ l.length) {x : Itm} (hx : x ∈ itms l fin ⟨D, L, S⟩ l.length) {q : List (Nat × Bool)} {c : Int} (h : Cmp l.length (Wt l) fin x.t.d.toNat x.t.l.toNat x.t.s.toNat q c) :
    ∃ b, Cmp l.length (Wt l) fin D L S ((x.w, b) :: q) (c + x.c) := by
  have hn := V.le
  obtain ⟨i, hi, hns, hx2⟩ := (mem_itms hn hD x).1 hx
  rw [skipb_nat hn hD] at hns
  have hbit : D.testBit i = false := by
    cases hb : D.testBit i
    · rfl
    · exact absurd (.inl hb) hns
  rcases hx2 with rfl | ⟨S', rfl, rfl⟩
  · simp only [Int.toNat_natCast] at h
    refine ⟨false, ?_⟩
    rw [Int.add_comm]
    exact .step hi hbit h
  · simp only [Int.toNat_natCast] at h
    refine ⟨true, ?_⟩
    simp only [Int.add_zero]
    exact .hop hi hbit h
theorem item_c (V : Valid l) {D L S : Nat} (hD : D < 2 ^ l.length) (hL : L < l.length) {x : Itm} (hx : x ∈ itms l fin ⟨D, L, S⟩ l.length) : 0 ≤ x.c ∧ x.c ≤ 1000 := by
  obtain ⟨i, hi, hns, rfl | ⟨S', _, rfl⟩⟩ := (mem_itms V.le hD x).1 hx
  · exact V.bound L i hL hi
  · simp
theorem lf_bd (V : Valid l) {t : T3} (ht : Tk l.length t) : -1 ≤ lf l fin t ∧ lf l fin t ≤ 9000 := by
  rcases lf_min (fin := fin) V _ t rfl ht with ⟨h, _⟩ | ⟨h0, ⟨p, hp⟩, _⟩
  · omega
  · obtain ⟨D, L, S, rfl, hD, hL, hS⟩ := ht
    have h1 := hp.len
    have h2 := ucnt_le l.length D
    have h3 := hp.bound V (by simpa using hL)
    simp only [Int.toNat_natCast] at h1
    have := V.le
    omega
theorem gw_iff (V : Valid l) {D L S : Nat} (hD : D < 2 ^ l.length) (hL : L < l.length) (hS : S ≤ 9) {x : Itm} (hx : x ∈ itms l fin ⟨D, L, S⟩ l.length) (want : Int) : Gw l fin want x ↔ 0 ≤ lf l fin x.t ∧ lf l fin x.t + x.c = want := by
  have h1 := item_c V hD hL hx
  have h2 := lf_bd (fin := fin) V (itms_ok V.le (t := ⟨D, L, S⟩) ⟨D, L, S, rfl, hD, hL, hS⟩ x hx).1
  unfold Gw
  rw [Go.IntWalk.wrap64_in _ ⟨by omega, by omega⟩]
theorem ordR_best (V : Valid l) : ∀ (d k : Nat) (ks : List T3) (out : List Int), ks ≠ [] → (∀ t ∈ ks, Tk l.length t ∧ 0 ≤ lf l fin t ∧ tcnt l.length t = d) → out.length + d = l.length → d ≤ k →
    ∃ t ∈ ks, ∃ p, Cmp l.length (Wt l) fin t.d.toNat t.l.toNat t.s.toNat p (lf l fin t) ∧ ordR l fin k ks out = out ++ up (p.map Prod.fst) ∧
      ∀ t' ∈ ks, ∀ p', Cmp l.length (Wt l) fin t'.d.toNat t'.l.toNat t'.s.toNat p' (lf l fin t') → lexLE (p.map Prod.fst) (p'.map Prod.fst) := by
  have hn := V.le
  intro d
  induction d with
  | zero =>
    intro k ks out hne hks hlen hk
    obtain ⟨t, ht⟩ := List.exists_mem_of_ne_nil ks hne
    obtain ⟨h1, h2, h3⟩ := hks t ht
    obtain ⟨p, hp⟩ := (lf_min (fin := fin) V _ t rfl h1).mem h2
    have hl := hp.len
    unfold tcnt at h3
    rw [h3] at hl
    have : p = [] := List.eq_nil_of_length_eq_zero hl
    subst this
    refine ⟨t, ht, [], hp, ?_, fun t' _ p' _ => trivial⟩
    rw [show ordR l fin k ks out = out from by cases k <;> simp [ordR, show ¬ out.length < l.length by omega]]
    simp [up]
  | succ d ih =>
    intro k ks out hne hks hlen hk
    obtain ⟨k, rfl⟩ : ∃ m, k = m + 1 := ⟨k - 1, by omega⟩
    have hkt : ∀ t ∈ ks, Tk l.length t := fun t ht => (hks t ht).1
    have hnx := nextF_nx (fin := fin) hn hkt
    have hdf : ∀ t ∈ ks, t.d.toNat < 2 ^ l.length ∧ t.d.toNat ≠ 2 ^ l.length - 1 := by
      intro t ht
      obtain ⟨D, L, S, rfl, hD, hL, hS⟩ := hkt t ht
      refine ⟨hD, fun e => ?_⟩
      have h3 : ucnt l.length D = d + 1 := (hks _ ht).2.2
      rw [(ucnt_zero _ _ hD).2 e] at h3
      omega
    -- a way of the least coupling leads on by a good item
    have hgood : ∀ t ∈ ks, ∀ p, Cmp l.length (Wt l) fin t.d.toNat t.l.toNat t.s.toNat p (lf l fin t) → ∃ x, x ∈ itms l fin t l.length ∧ Gw l fin (lf l fin t) x ∧ ∃ b q, p = (x.w, b) :: q ∧ Cmp l.length (Wt l) fin x.t.d.toNat x.t.l.toNat x.t.s.toNat q (lf l fin x.t) := by
      intro t ht p hp
      have h1 := hdf t ht
      have h0 := hkt t ht
      obtain ⟨D, L, S, rfl, hD, hL, hS⟩ := hkt t ht
      simp only [Int.toNat_natCast] at hp h1
      obtain ⟨x, hx, b, q, c', rfl, hc, hq⟩ := cmp_item V hD hp h1.2
      have hxt := (itms_ok hn h0 x hx).1
      have hle := (lf_min (fin := fin) V _ x.t rfl hxt).le ⟨q, hq⟩
      obtain ⟨q', hq'⟩ := (lf_min (fin := fin) V _ x.t rfl hxt).mem hle.1
      obtain ⟨b', hb'⟩ := item_cmp V hD hx hq'
      have hle2 := (lf_min (fin := fin) V _ ⟨D, L, S⟩ rfl h0).le ⟨_, by simpa using hb'⟩
      have e : lf l fin x.t = c' := by omega
      exact ⟨x, hx, (gw_iff V hD hL hS hx _).2 ⟨hle.1, by omega⟩, b, q, rfl, by rw [e]; exact hq⟩
    have hstart : ordR l fin (k + 1) ks out = ordR l fin k (nextF l fin ks).2 (out ++ [(nextF l fin ks).1]) := by
      conv => lhs; unfold ordR
      rw [if_pos (by omega)]
    obtain ⟨t0, ht0⟩ := List.exists_mem_of_ne_nil ks hne
    obtain ⟨p0, hp0⟩ := (lf_min (fin := fin) V _ t0 rfl (hkt t0 ht0)).mem (hks t0 ht0).2.1
    obtain ⟨x0, hx0, hg0, _⟩ := hgood t0 ht0 p0 hp0
    have hlt : (nextF l fin ks).1 < l.length := by
      have h1 := hnx.min x0 ⟨t0, ht0, hx0, hg0⟩
      have h2 := hnx.lt x0 ⟨t0, ht0, hx0, hg0⟩
      omega
    obtain ⟨x1, hx1, e1⟩ := hnx.at_ hlt
    have hmem : ∀ u ∈ (nextF l fin ks).2, ∃ t ∈ ks, ∃ x, x ∈ itms l fin t l.length ∧ Gw l fin (lf l fin t) x ∧ (x.w : Int) = (nextF l fin ks).1 ∧ x.t = u := by
      intro u hu
      obtain ⟨x, ⟨t, a, b, c⟩, d, e⟩ := (hnx.mem u).1 hu
      exact ⟨t, a, x, b, c, d, e⟩
    obtain ⟨u, hu, q, hq, hr, hlex⟩ := ih k (nextF l fin ks).2 (out ++ [(nextF l fin ks).1]) (fun e => by
        have := (hnx.mem x1.t).2 ⟨x1, hx1, e1, rfl⟩
        rw [e] at this
        cases this) (by
        intro u hu
        obtain ⟨t, ht, x, hx, hg, _, rfl⟩ := hmem u hu
        have := itms_ok hn (hkt t ht) x hx
        exact ⟨this.1, hg.1, by have := (hks t ht).2.2; omega⟩) (by simp; omega) (by omega)
    obtain ⟨t, ht, x, hx, hg, hw, rfl⟩ := hmem u hu
    have hres : ordR l fin (k + 1) ks out = out ++ up (x.w :: q.map Prod.fst) := by
      rw [hstart, hr, ← hw]
      simp [up]
    have hsplit : ∃ b, Cmp l.length (Wt l) fin t.d.toNat t.l.toNat t.s.toNat ((x.w, b) :: q) (lf l fin t) := by
      have h0 := hkt t ht
      obtain ⟨D, L, S, rfl, hD, hL, hS⟩ := hkt t ht
      obtain ⟨b, hb⟩ := item_cmp V hD hx hq
      have := ((gw_iff V hD hL hS hx _).1 hg).2
      rw [this] at hb
      exact ⟨b, by simpa using hb⟩
    obtain ⟨b, hb⟩ := hsplit
    refine ⟨t, ht, (x.w, b) :: q, hb, by rw [hres]; rfl, ?_⟩
    intro t' ht' p' hp'
    obtain ⟨x', hx', hg', b', q', rfl, hq'⟩ := hgood t' ht' p' hp'
    have hmin := hnx.min x' ⟨t', ht', hx', hg'⟩
    show lexLE (x.w :: q.map Prod.fst) (x'.w :: q'.map Prod.fst)
    by_cases e : x.w = x'.w
    · exact .inr ⟨e, hlex x'.t ((hnx.mem x'.t).2 ⟨x', ⟨t', ht', hx', hg'⟩, by omega, rfl⟩) q' hq'⟩
    · exact .inl (by omega)
theorem begF_min (s : Int) (ws : List Nat) : ((begF l fin s ws).1 = -1 ∧ ∀ w ∈ ws, lf l fin (begT s w) < 0) ∨ (∃ a w b, ws = a ++ w :: b ∧ begF l fin s ws = (lf l fin (begT s w), w) ∧ 0 ≤ lf l fin (begT s w) ∧ (∀ v ∈ a, lf l fin (begT s v) < 0 ∨ lf l fin (begT s w) < lf l fin (begT s v)) ∧ ∀ v ∈ b, lf l fin (begT s v) < 0 ∨ lf l fin (begT s w) ≤ lf l fin (begT s v)) := by
  suffices h : ∀ (n : Nat), n ≤ ws.length → ((begF l fin s (ws.take n)).1 = -1 ∧ ∀ w ∈ ws.take n, lf l fin (begT s w) < 0) ∨ (∃ a w b, ws.take n = a ++ w :: b ∧ begF l fin s (ws.take n) = (lf l fin (begT s w), w) ∧ 0 ≤ lf l fin (begT s w) ∧ (∀ v ∈ a, lf l fin (begT s v) < 0 ∨ lf l fin (begT s w) < lf l fin (begT s v)) ∧ ∀ v ∈ b, lf l fin (begT s v) < 0 ∨ lf l fin (begT s w) ≤ lf l fin (begT s v)) by
    have := h ws.length (Nat.le_refl _)
    rwa [List.take_length] at this
  intro n
  induction n with
  | zero => exact fun _ => .inl ⟨by simp [begF], by simp⟩
  | succ n ih =>
    intro hn
    have hlt : n < ws.length := by omega
    have e : ws.take (n + 1) = ws.take n ++ [ws[n]] := by rw [List.take_succ_eq_append_getElem hlt]
    have e2 : begF l fin s (ws.take (n + 1)) = if 0 ≤ lf l fin (begT s ws[n]) ∧ ((begF l fin s (ws.take n)).1 < 0 ∨ lf l fin (begT s ws[n]) < (begF l fin s (ws.take n)).1) then (lf l fin (begT s ws[n]), ws[n]) else begF l fin s (ws.take n) := by
      rw [e]
      unfold begF
      rw [List.foldl_append, List.foldl_cons, List.foldl_nil]
    rw [e2, e]
    rcases ih (by omega) with ⟨h1, h2⟩ | ⟨a, w, b, h1, h2, h3, h4, h5⟩
    · by_cases hc : 0 ≤ lf l fin (begT s ws[n])
      · rw [if_pos ⟨hc, .inl (by omega)⟩]
        exact .inr ⟨ws.take n, ws[n], [], rfl, rfl, hc, fun v hv => .inl (h2 v hv), fun v hv => by cases hv⟩
      · rw [if_neg (fun h => hc h.1)]
        refine .inl ⟨h1, fun v hv => ?_⟩
        rcases List.mem_append.1 hv with hv | hv
        · exact h2 v hv
        · obtain rfl := List.mem_singleton.1 hv
          omega
    · rw [h2]
      by_cases hc : 0 ≤ lf l fin (begT s ws[n]) ∧ lf l fin (begT s ws[n]) < lf l fin (begT s w)
      · rw [if_pos ⟨hc.1, .inr hc.2⟩]
        refine .inr ⟨ws.take n, ws[n], [], rfl, rfl, hc.1, fun v hv => ?_, fun v hv => by cases hv⟩
        rw [h1] at hv
        rcases List.mem_append.1 hv with hv | hv
        · rcases h4 v hv with h | h
          · exact .inl h
          · exact .inr (by omega)
        · rcases List.mem_cons.1 hv with rfl | hv
          · exact .inr hc.2
          · rcases h5 v hv with h | h
            · exact .inl h
            · exact .inr (by omega)
      · rw [if_neg (by
          rintro ⟨h6, h7 | h7⟩
          · simp only at h7; omega
          · exact hc ⟨h6, h7⟩)]
        refine .inr ⟨a, w, b ++ [ws[n]], by rw [h1]; simp, rfl, h3, h4, fun v hv => ?_⟩
        rcases List.mem_append.1 hv with hv | hv
        · exact h5 v hv
        · obtain rfl := List.mem_singleton.1 hv
          by_cases h : 0 ≤ lf l fin (begT s ws[n])
          · exact .inr (by
              have := fun h' => hc ⟨h, h'⟩
              omega)
          · exact .inl (by omega)
theorem begT_tk (V : Valid l) {s w : Nat} (hs : s ≤ 9) (hw : w < l.length) : Tk l.length (begT s w) ∧ begT s w = ⟨(2 ^ w : Nat), w, s⟩ := by
  have hn := V.le
  have e : begT s w = ⟨(2 ^ w : Nat), w, s⟩ := by
    unfold begT
    rw [wpow w (by omega)]
  exact ⟨⟨2 ^ w, w, s, e, Nat.pow_lt_pow_right (by decide) hw, hw, hs⟩, e⟩
/-- The coupling of an order from some beginnings is the least one, and the order is the first one of these. -/
theorem orderF_best (V : Valid l) (s : Nat) (hs : s ≤ 9) (ws : List Nat) (hws : ∀ w ∈ ws, w < l.length) (hasc : ws.Pairwise (· < ·)) :
    (orderF l fin s ws = ([], 0, false) ∧ ∀ w ∈ ws, ∀ p c, ¬ Cmp l.length (Wt l) fin (2 ^ w) w s p c) ∨
    (∃ w ∈ ws, ∃ p c, orderF l fin s ws = (up (w :: p.map Prod.fst), c, true) ∧ Cmp l.length (Wt l) fin (2 ^ w) w s p c ∧
      ∀ w' ∈ ws, ∀ p' c', Cmp l.length (Wt l) fin (2 ^ w') w' s p' c' → c ≤ c' ∧ (c' = c → lexLE (w :: p.map Prod.fst) (w' :: p'.map Prod.fst))) := by
  have hmin : ∀ w, w < l.length → IsMin (fun c => ∃ p, Cmp l.length (Wt l) fin (2 ^ w) w s p c) (lf l fin (begT s w)) := by
    intro w hw
    obtain ⟨h1, h2⟩ := begT_tk V hs hw
    refine (lf_min (fin := fin) V _ _ rfl h1).congr fun c => ?_
    rw [h2]
    rfl
  unfold orderF
  rcases begF_min (l := l) (fin := fin) s ws with ⟨h1, h2⟩ | ⟨a, w, b, h1, h2, h3, h4, h5⟩
  · rw [if_pos (by omega)]
    exact .inl ⟨rfl, fun w hw p c h => (hmin w (hws w hw)).of_neg (h2 w hw) c ⟨p, h⟩⟩
  · have hw : w ∈ ws := by rw [h1]; simp
    obtain ⟨t1, t2⟩ := begT_tk V hs (hws w hw)
    rw [h2, if_neg (by simp only; omega)]
    have hc1 : tcnt l.length (begT s w) + 1 = l.length := by
      have h := ucnt_or l.length 0 w (by simp)
      rw [if_pos (hws w hw)] at h
      rw [t2]
      unfold tcnt
      simp only [Int.toNat_natCast]
      rw [Nat.zero_or] at h
      rw [h]
      have : ∀ n, ucnt n 0 = n := by
        intro n
        induction n with
        | zero => rfl
        | succ n ih => rw [ucnt_succ, ih]; simp
      exact this _
    obtain ⟨t, ht, p, hp, hr, hlex⟩ := ordR_best (fin := fin) V (tcnt l.length (begT s w)) 10 [begT s w] [(w : Int)] (by simp) (by
      intro t ht
      obtain rfl := List.mem_singleton.1 ht
      exact ⟨t1, h3, rfl⟩) (by simp; omega) (by have := V.le; omega)
    obtain rfl := List.mem_singleton.1 ht
    have hcm : ∀ (q : List (Nat × Bool)) (c : Int), Cmp l.length (Wt l) fin (begT s w).d.toNat (begT s w).l.toNat (begT s w).s.toNat q c ↔ Cmp l.length (Wt l) fin (2 ^ w) w s q c := by
      intro q c
      rw [t2]
      simp only [Int.toNat_natCast]
    refine .inr ⟨w, hw, p, lf l fin (begT s w), ?_, (hcm _ _).1 hp, ?_⟩
    · simp only
      rw [hr]
      simp [up]
    · intro w' hw' p' c' hc'
      have hle := (hmin w' (hws w' hw')).le ⟨p', hc'⟩
      have hww : lf l fin (begT s w) ≤ lf l fin (begT s w') := by
        rw [h1] at hw'
        rcases List.mem_append.1 hw' with hw' | hw'
        · rcases h4 w' hw' with h | h <;> omega
        · rcases List.mem_cons.1 hw' with rfl | hw'
          · exact Int.le_refl _
          · rcases h5 w' hw' with h | h <;> omega
      refine ⟨by omega, fun e => ?_⟩
      by_cases e2 : w = w'
      · subst e2
        refine .inr ⟨rfl, hlex _ (List.mem_singleton_self _) p' ?_⟩
        have : c' = lf l fin (begT s w) := e
        rw [← this]
        exact (hcm _ _).2 hc'
      · refine .inl ?_
        rw [h1] at hw' hasc
        rcases List.mem_append.1 hw' with hw' | hw'
        · rcases h4 w' hw' with h | h <;> omega
        · rcases List.mem_cons.1 hw' with rfl | hw'
          · exact absurd rfl e2
          · have := (List.pairwise_append.1 hasc).2.1
            exact (List.pairwise_cons.1 this).1 w' hw'
end
end Go.Proofs.Ytaapbnhggfmlpaa.A
end
section
set_option linter.unusedVariables false
namespace Go.Proofs.Ytaapbnhggfmlpaa.B
open Go.RowKit Go.Proofs.Ytaapbnhggfmlpaa.P Go.Proofs.YtaapbnhggfmlpaaW.PrintWords Go.Proofs.YtaapbnhggfmlpaaW.PrintLast Go.Proofs.YtaapbnhggfmlpaaW.PrintMore Go.Proofs.Ytaapbnhggfmlpaa.A Go.Proofs.Ytaapbnhggfmlpaa.M
def ix (D L S : Nat) : Nat := (D * 9 + L) * 9 + S
theorem ix_int {D L S : Nat} (hD : D < 512) (hL : L < 9) (hS : S ≤ 9) : wrap64 (wrap64 (wrap64 (wrap64 ((D : Int) * 9) + L) * 9) + S) = (ix D L S : Int) := by
  rw [w64 (x := (D : Int) * 9) (by omega), w64 (x := (D : Int) * 9 + L) (by omega), w64 (x := ((D : Int) * 9 + L) * 9) (by omega), w64 (by omega)]
  unfold ix
  push_cast
  rfl
theorem ix_inj {D L S D' L' S' : Nat} (hL : L < 9) (hS : S < 9) (hL' : L' < 9) (hS' : S' < 9) (h : ix D L S = ix D' L' S') : D = D' ∧ L = L' ∧ S = S' := by
  unfold ix at h
  omega
theorem u64n {i : Nat} (hi : i ≤ 9) : IntKind.u64.wrap (i : Int) = (i : Int) := by
  rw [IntKind.wrap_u64]
  omega
theorem shl9 {i : Nat} (hi : i ≤ 9) : shl .i64 1 (i : Int) = wrap64 (2 ^ i) := by
  unfold shl
  rw [i64_w, Int.toNat_natCast, show IntKind.i64.bits = 64 from rfl, Nat.min_eq_left (by omega), Int.one_mul]
theorem shr9 (D : Int) {i : Nat} (hi : i ≤ 9) : shr .i64 D (i : Int) = D / 2 ^ i := by
  unfold shr
  rw [Int.toNat_natCast, show IntKind.i64.bits = 64 from rfl, Nat.min_eq_left (by omega)]
theorem gset {α : Type} (l : List α) (i j : Nat) (x d : α) (hi : i < l.length) : (l.set i x).getD j d = if j = i then x else l.getD j d := by
  simp only [List.getD_eq_getElem?_getD, List.getElem?_set]
  by_cases e : i = j
  · subst e
    simp [hi]
  · rw [if_neg e, if_neg (fun h => e h.symm)]
theorem bit01 (x : Nat) : Go.bits .and .i64 ((x : Nat) : Int) 1 = ((x % 2 : Nat) : Int) ∨ ¬ x < 2 ^ 20 := by
  by_cases h : x < 2 ^ 20
  · left
    have := (i64_nat x 1 h (by decide)).1
    rw [show ((1 : Nat) : Int) = 1 from rfl] at this
    rw [this, Nat.and_one_is_mod]
  · exact .inr h
theorem tst0 (D i : Nat) (hD : D < 2 ^ 9) : (Go.bits .and .i64 ((D : Int) / 2 ^ i) 1 = 0 ↔ D.testBit i = false) := by
  have e : ((D : Int) / 2 ^ i) = ((D / 2 ^ i : Nat) : Int) := by simp
  have hlt : D / 2 ^ i < 2 ^ 20 := Nat.lt_of_le_of_lt (Nat.div_le_self _ _) (by omega)
  have h1 := (bit01 (D / 2 ^ i)).resolve_right (fun h => h hlt)
  have h2 := tst_nat D i hD
  rw [e] at h2 ⊢
  rw [h1] at h2 ⊢
  cases hb : D.testBit i
  · constructor
    · intro _; rfl
    · intro _
      have : ¬ ((D / 2 ^ i % 2 : Nat) : Int) = 1 := fun h => by rw [h2.1 h] at hb; cases hb
      omega
  · constructor
    · intro h
      have := h2.2 hb
      omega
    · intro h; cases h
/-- With rounds enough an answer with F comes. -/
def Res {α : Type} (F : α → Prop) (g : Nat → Option α) : Prop := ∃ r, Evl g r ∧ F r
theorem Res.step {α : Type} {F : α → Prop} {g h : Nat → Option α} (K : Nat) (e : ∀ k, K ≤ k → g (k + 1) = h k) (H : Res F h) : Res F g := by
  obtain ⟨r, h1, h2⟩ := H
  exact ⟨r, h1.step K e, h2⟩
theorem min1 (x : Int) : spec_l00Min.f 1 x = some (if (1 : Int) < x then 1 else x) := by
  unfold spec_l00Min.f
  split <;> rfl
section
variable {l : List (List Int)} (V : Valid l) (fin : Int) (cn : Nat) (hcn : cn < 9)
/-- What the planner hands on for a wire, without passing by. -/
def stepW (l : List (List Int)) (fin : Int) (D L S : Nat) (a : Int) (i : Nat) : Int :=
  if D.testBit i = true then a else
    if 0 < S then stepF (lf l fin) (stepF (lf l fin) a ⟨i, Wt l L i, ⟨(D ||| 2 ^ i : Nat), i, S⟩⟩) ⟨i, 0, ⟨(D ||| 2 ^ i : Nat), i, (S - 1 : Nat)⟩⟩
    else stepF (lf l fin) a ⟨i, Wt l L i, ⟨(D ||| 2 ^ i : Nat), i, S⟩⟩
include V
theorem lf_pruned {D i S : Nat} (hD : D < 2 ^ l.length) (hi : i < l.length) (hS : S ≤ 9) (hf : 0 ≤ fin) (hs : ((i : Int) == fin) ≠ (setb D i == full l.length)) : lf l fin ⟨(D ||| 2 ^ i : Nat), i, S⟩ = -1 := by
  have ht : Tk l.length ⟨(D ||| 2 ^ i : Nat), i, S⟩ := ⟨_, _, _, rfl, or_lt hD hi, hi, hS⟩
  refine (lf_min (fin := fin) V _ _ rfl ht).none ?_
  rintro c ⟨p, hp⟩
  simp only [Int.toNat_natCast] at hp
  exact Cmp.pruned V.le hD hi hf hs hp
omit V in
theorem stepF_neg {F : T3 → Int} {a : Int} {x : Itm} (h : F x.t = -1) : stepF F a x = a := by
  unfold stepF
  rw [if_neg (by omega)]
theorem lf_steps {D L S : Nat} (hD : D < 2 ^ l.length) (hL : L < l.length) (hS : S ≤ 9) (hne : D ≠ 2 ^ l.length - 1) : lf l fin ⟨D, L, S⟩ = (List.range l.length).foldl (stepW l fin D L S) (-1) := by
  have hn := V.le
  have h9 := pow9 hn
  rw [lf_eq hn ⟨D, L, S, rfl, hD, hL, hS⟩ (by
    show (D : Int) ≠ full l.length
    rw [full_nat _ hn]
    omega)]
  unfold itms
  rw [List.foldl_flatMap]
  refine foldl_congr _ _ fun i hi a => ?_
  have hi := List.mem_range.1 hi
  have es := setb_nat D i (by omega) (by omega)
  have eW : rd (rd_Ls2 l (L : Int)) (i : Int) = Wt l L i := rfl
  have e1 : itm l fin ⟨D, L, S⟩ i = if skipb l.length fin (D : Int) i then [] else ⟨i, Wt l L i, ⟨((D ||| 2 ^ i : Nat) : Int), i, S⟩⟩ :: (if (0 : Int) < (S : Int) then [⟨i, 0, ⟨((D ||| 2 ^ i : Nat) : Int), i, (S : Int) - 1⟩⟩] else []) := by
    unfold itm
    simp only [es, eW]
  rw [e1]
  unfold stepW
  by_cases hb : D.testBit i = true
  · rw [if_pos hb, if_pos (.inl ((tst_nat D i (by omega)).2 hb)), List.foldl_nil]
  · rw [if_neg hb]
    by_cases hs : skipb l.length fin D i
    · have hp := ((skipb_nat hn hD).1 hs).resolve_left hb
      have h1 : ∀ a, stepF (lf l fin) a ⟨i, Wt l L i, ⟨(D ||| 2 ^ i : Nat), i, S⟩⟩ = a := fun a => stepF_neg (lf_pruned V fin hD hi hS hp.1 hp.2)
      have h2 : ∀ a, stepF (lf l fin) a ⟨i, 0, ⟨(D ||| 2 ^ i : Nat), i, (S - 1 : Nat)⟩⟩ = a := fun a => stepF_neg (lf_pruned V fin hD hi (S := S - 1) (by omega) hp.1 hp.2)
      rw [if_pos hs, h1, h2, List.foldl_nil]
      split <;> rfl
    · rw [if_neg hs, List.foldl_cons]
      by_cases c : (0 : Int) < (S : Int)
      · rw [if_pos c, if_pos (by omega), List.foldl_cons, List.foldl_nil, show ((S - 1 : Nat) : Int) = (S : Int) - 1 by omega]
      · rw [if_neg c, if_neg (by omega), List.foldl_nil]
end
attribute [local irreducible] lf
section
variable {l : List (List Int)} (V : Valid l) (fin : Int) (cn : Nat) (hcn : cn < 9)
/-- The table: what is done tells what is left. -/
structure Tab (l : List (List Int)) (fin : Int) (dn : Nat → Nat → Nat → Prop) (out : List Int) : Prop where
  len : out.length = 2 ^ l.length * 81
  yes : ∀ D L S, D < 2 ^ l.length → L < 9 → S < 9 → dn D L S → out.getD (ix D L S) 0 = lf l fin ⟨D, L, S⟩
  no : ∀ D L S, D < 2 ^ l.length → L < 9 → S < 9 → ¬ dn D L S → out.getD (ix D L S) 0 = -1
theorem ix_lt {n D L S : Nat} (hD : D < 2 ^ n) (hL : L < 9) (hS : S < 9) : ix D L S < 2 ^ n * 81 := by
  unfold ix
  omega
/-- One place of the table, under way: out holds v there, and else the table. -/
def At (l : List (List Int)) (fin : Int) (dn : Nat → Nat → Nat → Prop) (D L S : Nat) (out : List Int) (v : Int) : Prop :=
  out.getD (ix D L S) 0 = v ∧ ¬ dn D L S ∧ out.length = 2 ^ l.length * 81 ∧ ∀ D' L' S', D' < 2 ^ l.length → L' < 9 → S' < 9 → ¬ (D' = D ∧ L' = L ∧ S' = S) → (dn D' L' S' → out.getD (ix D' L' S') 0 = lf l fin ⟨D', L', S'⟩) ∧ (¬ dn D' L' S' → out.getD (ix D' L' S') 0 = -1)
theorem At.put {dn : Nat → Nat → Nat → Prop} {D L S : Nat} {out : List Int} {v : Int} (h : At l fin dn D L S out v) (hD : D < 2 ^ l.length) (hL : L < 9) (hS : S < 9) (x : Int) : At l fin dn D L S (out.set (ix D L S) x) x := by
  obtain ⟨h1, h2, h3, h4⟩ := h
  have hlt := ix_lt hD hL hS
  refine ⟨?_, h2, by rw [List.length_set]; exact h3, fun D' L' S' a b c d => ?_⟩
  · rw [gset _ _ _ _ _ (by omega), if_pos rfl]
  · rw [gset _ _ _ _ _ (by omega), if_neg (fun e => d (ix_inj b c hL hS e))]
    exact h4 D' L' S' a b c d
theorem At.done {dn dn' : Nat → Nat → Nat → Prop} {D L S : Nat} {out : List Int} (h : At l fin dn D L S out (lf l fin ⟨D, L, S⟩)) (hd : ∀ D' L' S', dn' D' L' S' ↔ dn D' L' S' ∨ (D' = D ∧ L' = L ∧ S' = S)) : Tab l fin dn' out := by
  obtain ⟨h1, h2, h3, h4⟩ := h
  refine ⟨h3, fun D' L' S' a b c d => ?_, fun D' L' S' a b c d => ?_⟩
  · by_cases e : D' = D ∧ L' = L ∧ S' = S
    · obtain ⟨rfl, rfl, rfl⟩ := e
      exact h1
    · exact (h4 D' L' S' a b c e).1 (((hd D' L' S').1 d).resolve_right e)
  · exact (h4 D' L' S' a b c (fun e => d ((hd D' L' S').2 (.inr e)))).2 (fun e => d ((hd D' L' S').2 (.inl e)))
theorem Tab.at {dn : Nat → Nat → Nat → Prop} {D L S : Nat} {out : List Int} (h : Tab l fin dn out) (hD : D < 2 ^ l.length) (hL : L < 9) (hS : S < 9) (hd : ¬ dn D L S) : At l fin dn D L S out (-1) :=
  ⟨h.no D L S hD hL hS hd, hd, h.len, fun D' L' S' a b c _ => ⟨h.yes D' L' S' a b c, h.no D' L' S' a b c⟩⟩
def upd (v x : Int) : Int := if v < 0 ∨ x < v then x else v
theorem stepF_pos {F : T3 → Int} {a : Int} {x : Itm} (h : 0 ≤ F x.t) : stepF F a x = upd a (wrap64 (F x.t + x.c)) := by
  unfold stepF upd
  by_cases c : a < 0 ∨ wrap64 (F x.t + x.c) < a
  · rw [if_pos ⟨h, c⟩, if_pos c]
  · rw [if_neg (fun h => c h.2), if_neg c]
theorem step_upd {F : T3 → Int} {x : Itm} {R : Int} (h : F x.t = R) (a : Int) : (if R < 0 then a else upd a (wrap64 (R + x.c))) = stepF F a x := by
  subst h
  by_cases c : F x.t < 0
  · rw [if_pos c]
    unfold stepF
    rw [if_neg (fun h2 => absurd h2.1 (by omega))]
  · rw [if_neg c, stepF_pos (by omega)]
theorem ix_small {D L S : Nat} (hD : D < 512) (hL : L < 9) (hS : S < 9) : ix D L S < 1000000 := by unfold ix; omega
theorem ix_sub {E i S sh : Nat} (hE : E < 512) (hi : i < 9) (hS : S < 9) (h : sh ≤ S) : wrap64 ((ix E i S : Int) - sh) = (ix E i (S - sh) : Int) := by
  rw [w64 (by have := ix_small hE hi hS; omega)]
  unfold ix
  omega
/-- What is done before a place is come to. -/
def dnF (n cn D L S : Nat) (D' L' S' : Nat) : Prop := D'.testBit L' = true ∧ L' < n ∧ S' ≤ cn ∧ (D < D' ∨ (D' = D ∧ (L' < L ∨ (L' = L ∧ S' < S))))
/-- A place's number is made less. -/
theorem l5put {dn : Nat → Nat → Nat → Prop} {D L S i sh : Nat} {v x n1 : Int} {out : List Int} {F : List Int → Prop} (hD : D < 2 ^ l.length) (hD9 : D < 512) (hL : L < 9) (hS : S < 9) (hsh : sh ≤ 1) (hA : At l fin dn D L S out v)
    (nx : ∀ out' v', At l fin dn D L S out' v' → v' = upd v x → Res F (fun k => spec_l10Left.l5 k cn fin n1 ((2 ^ l.length - 1 : Nat) : Int) out' D L S (ix D L S) i ((sh + 1 : Nat) : Int) l)) :
    Res F (fun k => spec_l10Left.j7 k cn fin n1 ((2 ^ l.length - 1 : Nat) : Int) out D L S (ix D L S) i sh x l) := by
  have hl3 := hA.2.2.1
  have hv := hA.1
  have hx3 := ix_lt (n := l.length) hD hL hS
  have hx4 := ix_small hD9 hL hS
  have es : wrap64 ((sh : Int) + 1) = ((sh + 1 : Nat) : Int) := by rw [w64 (by omega)]; push_cast; rfl
  by_cases c : v < 0 ∨ x < v
  · refine Res.step 0 (fun k _ => ?_) (nx _ _ (hA.put fin hD hL hS x) (by unfold upd; rw [if_pos c]))
    simp only [spec_l10Left.j7]
    rw [if_pos (by omega), if_pos (by omega), rd_nat, hv, Int.toNat_natCast, es]
    by_cases c1 : v < 0
    · rw [if_pos c1]
    · rw [if_neg c1, if_pos (c.resolve_left c1)]
  · refine Res.step 0 (fun k _ => ?_) (nx _ _ hA (by unfold upd; rw [if_neg c]))
    simp only [spec_l10Left.j7]
    rw [if_pos (by omega), if_pos (by omega), rd_nat, hv, es, if_neg (fun h => c (.inl h)), if_neg (fun h => c (.inr h))]
/-- One round of the shields. -/
theorem l5round {dn : Nat → Nat → Nat → Prop} {D L S i sh E : Nat} {v R c : Int} {out : List Int} {F : List Int → Prop} (hn : l.length ≤ 9) (hD : D < 2 ^ l.length) (hD9 : D < 512) (hL : L < l.length) (hS : S < 9) (hsh : sh ≤ 1) (hshS : sh ≤ S) (hi : i < l.length) (hrow : (l.getD L []).length = l.length)
    (hE : E < 2 ^ l.length) (hE9 : E < 512) (eo : Aside0 (Go.bits .or .i64 (D : Int) (shl .i64 1 (IntKind.u64.wrap (i : Int))) = (E : Int))) (hA : At l fin dn D L S out v) (hR : out.getD (ix E i (S - sh)) 0 = R) (hRb : -1 ≤ R ∧ R ≤ 9000) (hc : c = if sh = 0 then Wt l L i else 0) (hW : 0 ≤ Wt l L i ∧ Wt l L i ≤ 1000)
    (nx : ∀ out' v', At l fin dn D L S out' v' → v' = (if R < 0 then v else upd v (wrap64 (R + c))) → Res F (fun k => spec_l10Left.l5 k cn fin l.length ((2 ^ l.length - 1 : Nat) : Int) out' D L S (ix D L S) i ((sh + 1 : Nat) : Int) l)) :
    Res F (fun k => spec_l10Left.l5 k cn fin l.length ((2 ^ l.length - 1 : Nat) : Int) out D L S (ix D L S) i sh l) := by
  have hl3 := hA.2.2.1
  have hx := ix_lt (n := l.length) hE (show i < 9 by omega) (show S - sh < 9 by omega)
  have hx4 := ix_small hE9 (show i < 9 by omega) (show S - sh < 9 by omega)
  have hm : (sh : Int) ≤ (if (1 : Int) < (S : Int) then 1 else (S : Int)) := by split <;> omega
  have hi9 : i < 9 := by omega
  have hL9 : L < 9 := by omega
  have u0 : Aside0 ((0 : Int) ≤ IntKind.u64.wrap (i : Int)) := ⟨by rw [u64n (Nat.le_of_lt hi9)]; exact Int.natCast_nonneg i⟩
  have es : Aside0 (wrap64 ((sh : Int) + 1) = ((sh + 1 : Nat) : Int)) := ⟨w64s (n := 2) (Nat.lt_succ_of_le hsh) (by decide)⟩
  have ei : Aside0 (wrap64 ((wrap64 (wrap64 (wrap64 (wrap64 ((E : Int) * 9) + i) * 9) + S)) - sh) = (ix E i (S - sh) : Int)) := ⟨by
    rw [ix_int hE9 hi9 (Nat.le_of_lt hS)]
    exact ix_sub hE9 hi9 hS hshS⟩
  by_cases cR : R < 0
  · refine Res.step 0 (fun k _ => ?_) (nx _ _ hA (by rw [if_pos cR]))
    simp only [spec_l10Left.l5]
    rw [min1, eo.out]
    simp only [Option.bind_some]
    rw [if_pos hm, if_pos u0.out, ei.out, if_pos (by omega), if_pos (by omega), rd_nat, hR, if_pos cR, es.out]
  · have hnx : ∀ out' v', At l fin dn D L S out' v' → v' = upd v (wrap64 (R + c)) → Res F (fun k => spec_l10Left.l5 k cn fin l.length ((2 ^ l.length - 1 : Nat) : Int) out' D L S (ix D L S) i ((sh + 1 : Nat) : Int) l) := fun out' v' h e => nx out' v' h (by rw [if_neg cR]; exact e)
    by_cases c0 : sh = 0
    · rw [if_pos c0] at hc
      rw [hc] at hnx
      refine Res.step 0 (fun k _ => ?_) (l5put fin cn hD hD9 (by omega) hS hsh hA hnx)
      simp only [spec_l10Left.l5]
      rw [min1, eo.out]
      simp only [Option.bind_some]
      rw [if_pos hm, if_pos u0.out, ei.out, if_pos (by omega), if_pos (by omega), rd_nat, hR, if_neg cR, if_pos (by omega), if_pos (by omega), if_pos (by omega), if_pos (by omega), rdL_nat, hrow, if_pos (by omega), rd_nat]
      rfl
    · rw [if_neg c0] at hc
      rw [hc, Int.add_zero, w64 (x := R) (by omega)] at hnx
      refine Res.step 0 (fun k _ => ?_) (l5put fin cn hD hD9 (by omega) hS hsh hA hnx)
      simp only [spec_l10Left.l5]
      rw [min1, eo.out]
      simp only [Option.bind_some]
      rw [if_pos hm, if_pos u0.out, ei.out, if_pos (by omega), if_pos (by omega), rd_nat, hR, if_neg cR, if_neg (by omega)]
theorem or_gt {D i : Nat} (hb : D.testBit i = false) : D < D ||| 2 ^ i := by
  rcases Nat.lt_or_eq_of_le (Nat.left_le_or : D ≤ D ||| 2 ^ i) with h | h
  · exact h
  · exfalso
    have : (D ||| 2 ^ i).testBit i = true := by rw [testBit_or_pow]; simp
    rw [← h, hb] at this
    cases this
include V hcn
/-- Both shields of a next wire. -/
theorem left5 {F : List Int → Prop} (D L S i : Nat) (hD : D < 2 ^ l.length) (hL : L < l.length) (hS : S ≤ cn) (hi : i < l.length) (hb : D.testBit i = false) (out : List Int) (v : Int) (hA : At l fin (dnF l.length cn D L S) D L S out v)
    (next : ∀ out' v', At l fin (dnF l.length cn D L S) D L S out' v' → v' = stepW l fin D L S v i → Res F (fun k => spec_l10Left.l4 k cn fin l.length ((2 ^ l.length - 1 : Nat) : Int) out' D L S (ix D L S) ((i + 1 : Nat) : Int) l)) :
    Res F (fun k => spec_l10Left.l5 k cn fin l.length ((2 ^ l.length - 1 : Nat) : Int) out D L S (ix D L S) i 0 l) := by
  have hn := V.le
  have h9 := pow9 hn
  have hlt := or_lt hD hi
  have hgt := or_gt hb
  have hrow := V.row L hL
  have hWb := V.bound L i hL hi
  have eo : Aside0 (Go.bits .or .i64 (D : Int) (shl .i64 1 (IntKind.u64.wrap (i : Int))) = ((D ||| 2 ^ i : Nat) : Int)) := ⟨by
    rw [u64n (by omega), shl9 (by omega)]
    exact setb_nat D i (by omega) (by omega)⟩
  have read : ∀ (out : List Int) (v : Int), At l fin (dnF l.length cn D L S) D L S out v → ∀ S', S' ≤ S → out.getD (ix (D ||| 2 ^ i) i S') 0 = lf l fin ⟨(D ||| 2 ^ i : Nat), i, S'⟩ := by
    rintro out v ⟨_, _, _, h4⟩ S' hS'
    refine (h4 (D ||| 2 ^ i) i S' hlt (by omega) (by omega) (by omega)).1 ⟨?_, hi, by omega, .inl hgt⟩
    rw [testBit_or_pow]
    simp
  have lfb : ∀ S', S' ≤ S → -1 ≤ lf l fin ⟨(D ||| 2 ^ i : Nat), i, S'⟩ ∧ lf l fin ⟨(D ||| 2 ^ i : Nat), i, S'⟩ ≤ 9000 := fun S' hS' => lf_bd V ⟨_, _, _, rfl, hlt, hi, by omega⟩
  have exit_ : ∀ (sh : Nat) (out : List Int) (v' : Int), At l fin (dnF l.length cn D L S) D L S out v' → v' = stepW l fin D L S v i → (sh = 2 ∨ (sh = 1 ∧ S = 0)) → Res F (fun k => spec_l10Left.l5 k cn fin l.length ((2 ^ l.length - 1 : Nat) : Int) out D L S (ix D L S) i sh l) := by
    intro sh out v' hA' e hsh
    refine Res.step 0 (fun k _ => ?_) (next out v' hA' e)
    simp only [spec_l10Left.l5]
    rw [min1]
    simp only [Option.bind_some]
    rw [if_neg (by split <;> omega), w64s hi (by omega)]
  refine l5round fin cn (sh := 0) hn hD (by omega) hL (by omega) (by omega) (by omega) hi hrow hlt (by omega) eo hA (by rw [Nat.sub_zero]; exact read out v hA S (Nat.le_refl _)) (lfb S (Nat.le_refl _)) (c := Wt l L i) (by rw [if_pos rfl]) hWb fun out1 v1 h1 e1 => ?_
  replace e1 := e1.trans (step_upd (F := lf l fin) (x := ⟨i, Wt l L i, ⟨(D ||| 2 ^ i : Nat), i, S⟩⟩) rfl v)
  by_cases c : 0 < S
  · refine l5round fin cn (sh := 1) hn hD (by omega) hL (by omega) (by omega) (by omega) hi hrow hlt (by omega) eo h1 (read out1 v1 h1 (S - 1) (by omega)) (lfb (S - 1) (by omega)) (c := 0) (by rw [if_neg (by decide)]) hWb fun out2 v2 h2 e2 => ?_
    replace e2 := e2.trans (step_upd (F := lf l fin) (x := ⟨i, 0, ⟨(D ||| 2 ^ i : Nat), i, (S - 1 : Nat)⟩⟩) rfl v1)
    refine exit_ 2 out2 v2 h2 ?_ (.inl rfl)
    unfold stepW
    rw [if_neg (by rw [hb]; decide), if_pos c, e2, e1]
  · refine exit_ 1 out1 v1 h1 ?_ (.inr ⟨rfl, by omega⟩)
    unfold stepW
    rw [if_neg (by rw [hb]; decide), if_neg c, e1]
omit V hcn in
theorem Tab.congr {l : List (List Int)} {fin : Int} {dn dn' : Nat → Nat → Nat → Prop} {out : List Int} (h : Tab l fin dn out) (e : ∀ D L S, dn D L S ↔ dn' D L S) : Tab l fin dn' out :=
  ⟨h.len, fun D L S a b c d => h.yes D L S a b c ((e D L S).2 d), fun D L S a b c d => h.no D L S a b c (fun h => d ((e D L S).1 h))⟩
theorem left4 {F : List Int → Prop} (D L S : Nat) (hD : D < 2 ^ l.length) (hne : D ≠ 2 ^ l.length - 1) (hL : L < l.length) (hS : S ≤ cn) (hbL : D.testBit L = true)
    (next : ∀ out', Tab l fin (dnF l.length cn D L (S + 1)) out' → Res F (fun k => spec_l10Left.l3 k cn fin l.length ((2 ^ l.length - 1 : Nat) : Int) out' D L ((S + 1 : Nat) : Int) l)) :
    ∀ (d i : Nat) (out : List Int) (v : Int), l.length - i = d → i ≤ l.length → At l fin (dnF l.length cn D L S) D L S out v → v = (List.range i).foldl (stepW l fin D L S) (-1) →
      Res F (fun k => spec_l10Left.l4 k cn fin l.length ((2 ^ l.length - 1 : Nat) : Int) out D L S (ix D L S) i l) := by
  have hn := V.le
  have h9 := pow9 hn
  intro d
  induction d with
  | zero =>
    intro i out v hd hi hA hv
    obtain rfl : i = l.length := by omega
    rw [← lf_steps V fin hD hL (by omega) hne] at hv
    rw [hv] at hA
    refine Res.step 0 (fun k _ => ?_) (next out (hA.done fin fun D' L' S' => ?_))
    · simp only [spec_l10Left.l4]
      rw [if_neg (by omega), w64 (x := (S : Int) + 1) (by omega)]
      push_cast
      rfl
    · unfold dnF
      constructor
      · rintro ⟨a, b, c, e⟩
        by_cases h : D' = D ∧ L' = L ∧ S' = S
        · exact .inr h
        · exact .inl ⟨a, b, c, by omega⟩
      · rintro (⟨a, b, c, e⟩ | ⟨rfl, rfl, rfl⟩)
        · exact ⟨a, b, c, by omega⟩
        · exact ⟨hbL, hL, hS, by omega⟩
  | succ d ih =>
    intro i out v hd hi hA hv
    have hil : i < l.length := by omega
    have es : (List.range (i + 1)).foldl (stepW l fin D L S) (-1) = stepW l fin D L S v i := by
      rw [List.range_succ, List.foldl_append, ← hv]
      rfl
    have u0 : Aside0 ((0 : Int) ≤ IntKind.u64.wrap (i : Int)) := ⟨by rw [u64n (by omega)]; exact Int.natCast_nonneg i⟩
    have et : Aside0 (Go.bits .and .i64 (shr .i64 (D : Int) (IntKind.u64.wrap (i : Int))) 1 = 1 ↔ D.testBit i = true) := ⟨by
      rw [u64n (by omega), shr9 _ (by omega)]
      exact tst_nat D i (by omega)⟩
    by_cases hb : D.testBit i = true
    · have := ih (i + 1) out v (by omega) (by omega) hA (by rw [es]; unfold stepW; rw [if_pos hb])
      refine Res.step 0 (fun k _ => ?_) this
      simp only [spec_l10Left.l4]
      rw [if_pos (by omega), if_pos u0.out, if_pos (et.out.2 hb), w64s hil (by omega)]
    · have := left5 V fin cn hcn D L S i hD hL hS hil (by simpa using hb) out v hA (fun out' v' hA' e' => ih (i + 1) out' v' (by omega) (by omega) hA' (by rw [es]; exact e'))
      refine Res.step 0 (fun k _ => ?_) this
      simp only [spec_l10Left.l4]
      rw [if_pos (by omega), if_pos u0.out, if_neg (fun h => hb (et.out.1 h))]
theorem left3 {F : List Int → Prop} (D L : Nat) (hD : D < 2 ^ l.length) (hL : L < l.length) (hbL : D.testBit L = true)
    (next : ∀ out', Tab l fin (dnF l.length cn D (L + 1) 0) out' → Res F (fun k => spec_l10Left.l2 k cn fin l.length ((2 ^ l.length - 1 : Nat) : Int) out' D ((L + 1 : Nat) : Int) l)) :
    ∀ (d S : Nat) (out : List Int), cn + 1 - S = d → S ≤ cn + 1 → Tab l fin (dnF l.length cn D L S) out →
      Res F (fun k => spec_l10Left.l3 k cn fin l.length ((2 ^ l.length - 1 : Nat) : Int) out D L S l) := by
  have hn := V.le
  have h9 := pow9 hn
  intro d
  induction d with
  | zero =>
    intro S out hd hS hT
    obtain rfl : S = cn + 1 := by omega
    refine Res.step 0 (fun k _ => ?_) (next out (hT.congr fun D' L' S' => ?_))
    · simp only [spec_l10Left.l3]
      rw [if_neg (by omega), w64s hL (by omega)]
    · unfold dnF
      constructor
      · rintro ⟨a, b, c, e⟩
        exact ⟨a, b, c, by omega⟩
      · rintro ⟨a, b, c, e⟩
        exact ⟨a, b, c, by omega⟩
  | succ d ih =>
    intro S out hd hS hT
    have hSc : S ≤ cn := by omega
    have hA := hT.at fin hD (show L < 9 by omega) (show S < 9 by omega) (by unfold dnF; rintro ⟨_, _, _, e⟩; omega)
    have nxt := fun out' h => ih (S + 1) out' (by omega) (by omega) h
    have eix : Aside0 (wrap64 (wrap64 (wrap64 (wrap64 ((D : Int) * 9) + L) * 9) + S) = (ix D L S : Int)) := ⟨ix_int (by omega) (by omega) (by omega)⟩
    have esS : Aside0 (wrap64 ((S : Int) + 1) = ((S + 1 : Nat) : Int)) := ⟨w64s (n := 20) (by omega) (by decide)⟩
    have hix := ix_small (show D < 512 by omega) (show L < 9 by omega) (show S < 9 by omega)
    have hixl := ix_lt (n := l.length) hD (show L < 9 by omega) (show S < 9 by omega)
    by_cases hf : D = 2 ^ l.length - 1
    · have hlf := lf_full (l := l) (fin := fin) (t := ⟨D, L, S⟩) (by
        show (D : Int) = full l.length
        rw [full_nat _ hn, hf])
      have hdone : ∀ D' L' S', dnF l.length cn D L (S + 1) D' L' S' ↔ dnF l.length cn D L S D' L' S' ∨ (D' = D ∧ L' = L ∧ S' = S) := by
        intro D' L' S'
        unfold dnF
        constructor
        · rintro ⟨a, b, c, e⟩
          by_cases h : D' = D ∧ L' = L ∧ S' = S
          · exact .inr h
          · exact .inl ⟨a, b, c, by omega⟩
        · rintro (⟨a, b, c, e⟩ | ⟨rfl, rfl, rfl⟩)
          · exact ⟨a, b, c, by omega⟩
          · exact ⟨hbL, hL, hSc, by omega⟩
      have hbase : lf l fin ⟨D, L, S⟩ = if S = 0 ∧ (fin < 0 ∨ (L : Int) = fin) then 0 else -1 := by
        rw [hlf]
        unfold baseF
        simp only
        by_cases c : S = 0 ∧ (fin < 0 ∨ (L : Int) = fin)
        · rw [if_pos c, if_neg (by omega)]
        · rw [if_neg c, if_pos (by omega)]
      have yes_ : S = 0 ∧ (fin < 0 ∨ (L : Int) = fin) → Res F (fun k => spec_l10Left.j4 k cn fin l.length ((2 ^ l.length - 1 : Nat) : Int) out D L S (ix D L S) true l) := by
        intro c
        rw [if_pos c] at hbase
        have hp := hA.put fin hD (by omega) (by omega) 0
        rw [← hbase] at hp
        refine Res.step 0 (fun k _ => ?_) (nxt _ (hp.done fin hdone))
        simp only [spec_l10Left.j4]
        rw [if_pos trivial, if_pos (by omega), if_pos (by rw [hT.len]; omega), esS.out, Int.toNat_natCast, hbase]
      have no_ : ¬ (S = 0 ∧ (fin < 0 ∨ (L : Int) = fin)) → Res F (fun k => spec_l10Left.j4 k cn fin l.length ((2 ^ l.length - 1 : Nat) : Int) out D L S (ix D L S) false l) := by
        intro c
        rw [if_neg c] at hbase
        have hA' := hA
        rw [← hbase] at hA'
        refine Res.step 0 (fun k _ => ?_) (nxt _ (hA'.done fin hdone))
        simp only [spec_l10Left.j4]
        rw [if_neg (by decide), esS.out]
      have hD' : (D : Int) = ((2 ^ l.length - 1 : Nat) : Int) := by rw [hf]
      by_cases c0 : S = 0
      · by_cases c1 : fin < 0
        · refine Res.step 0 (fun k _ => ?_) (yes_ ⟨c0, .inl c1⟩)
          simp only [spec_l10Left.l3]
          rw [if_pos (by omega), if_pos hD', if_pos (by omega), if_pos c1, eix.out]
        · by_cases c2 : (L : Int) = fin
          · refine Res.step 0 (fun k _ => ?_) (yes_ ⟨c0, .inr c2⟩)
            simp only [spec_l10Left.l3]
            rw [if_pos (by omega), if_pos hD', if_pos (by omega), if_neg c1, eix.out, show ((L : Int) == fin) = true from beq_iff_eq.2 c2]
          · refine Res.step 0 (fun k _ => ?_) (no_ (fun h => h.2.elim c1 c2))
            simp only [spec_l10Left.l3]
            rw [if_pos (by omega), if_pos hD', if_pos (by omega), if_neg c1, eix.out, show ((L : Int) == fin) = false from beq_eq_false_iff_ne.2 c2]
      · refine Res.step 0 (fun k _ => ?_) (no_ (fun h => c0 h.1))
        simp only [spec_l10Left.l3]
        rw [if_pos (by omega), if_pos hD', if_neg (by omega), eix.out]
    · have := left4 V fin cn hcn D L S hD hf hL hSc hbL nxt l.length 0 out (-1) (by omega) (by omega) hA rfl
      refine Res.step 0 (fun k _ => ?_) this
      simp only [spec_l10Left.l3]
      rw [if_pos (by omega), if_neg (fun h => hf (by omega)), eix.out]
      rfl
theorem left2 {F : List Int → Prop} (D : Nat) (hD : D < 2 ^ l.length)
    (next : ∀ out', Tab l fin (dnF l.length cn D l.length 0) out' → Res F (fun k => spec_l10Left.l1 k cn fin l.length ((2 ^ l.length - 1 : Nat) : Int) out' (wrap64 ((D : Int) - 1)) l)) :
    ∀ (d L : Nat) (out : List Int), l.length - L = d → L ≤ l.length → Tab l fin (dnF l.length cn D L 0) out →
      Res F (fun k => spec_l10Left.l2 k cn fin l.length ((2 ^ l.length - 1 : Nat) : Int) out D L l) := by
  have hn := V.le
  have h9 := pow9 hn
  intro d
  induction d with
  | zero =>
    intro L out hd hL hT
    obtain rfl : L = l.length := by omega
    refine Res.step 0 (fun k _ => ?_) (next out hT)
    simp only [spec_l10Left.l2]
    rw [if_neg (by omega)]
  | succ d ih =>
    intro L out hd hL hT
    have hLl : L < l.length := by omega
    have u0 : Aside0 ((0 : Int) ≤ IntKind.u64.wrap (L : Int)) := ⟨by rw [u64n (by omega)]; exact Int.natCast_nonneg L⟩
    have et : Aside0 (Go.bits .and .i64 (shr .i64 (D : Int) (IntKind.u64.wrap (L : Int))) 1 = 0 ↔ D.testBit L = false) := ⟨by
      rw [u64n (by omega), shr9 _ (by omega)]
      exact tst0 D L (by omega)⟩
    by_cases hb : D.testBit L = true
    · have := left3 V fin cn hcn D L hD hLl hb (fun out' h => ih (L + 1) out' (by omega) (by omega) h) (cn + 1) 0 out (by omega) (by omega) hT
      refine Res.step 0 (fun k _ => ?_) this
      simp only [spec_l10Left.l2]
      rw [if_pos (by omega), if_pos u0.out, if_neg (fun h => by rw [et.out.1 h] at hb; cases hb)]
      rfl
    · have hb' : D.testBit L = false := by simpa using hb
      have := ih (L + 1) out (by omega) (by omega) (hT.congr fun D' L' S' => by
        unfold dnF
        constructor
        · rintro ⟨a, b, c, e⟩
          exact ⟨a, b, c, by omega⟩
        · rintro ⟨a, b, c, e⟩
          refine ⟨a, b, c, ?_⟩
          by_cases h : D' = D ∧ L' = L
          · rw [h.1, h.2, hb'] at a
            cases a
          · omega)
      refine Res.step 0 (fun k _ => ?_) this
      simp only [spec_l10Left.l2]
      rw [if_pos (by omega), if_pos u0.out, if_pos (et.out.2 hb'), w64s hLl (by omega)]
/-- The whole table is right. -/
def Full (l : List (List Int)) (fin : Int) (cn : Nat) (out : List Int) : Prop := out.length = 2 ^ l.length * 81 ∧ ∀ D L S, D < 2 ^ l.length → L < l.length → S ≤ cn → D.testBit L = true → out.getD (ix D L S) 0 = lf l fin ⟨D, L, S⟩
theorem left1 : ∀ (D : Nat) (out : List Int), D < 2 ^ l.length → Tab l fin (dnF l.length cn D 0 0) out → Res (Full l fin cn) (fun k => spec_l10Left.l1 k cn fin l.length ((2 ^ l.length - 1 : Nat) : Int) out D l) := by
  have hn := V.le
  have h9 := pow9 hn
  intro D
  induction D with
  | zero =>
    intro out hD hT
    refine ⟨out, Evl.of 1 (fun k hk => ?_), hT.len, fun D' L S hD' hL hS hb => hT.yes D' L S hD' (by omega) (by omega) ⟨hb, hL, hS, ?_⟩⟩
    · obtain ⟨k, rfl⟩ : ∃ m, k = m + 1 := ⟨k - 1, by omega⟩
      simp only [spec_l10Left.l1]
      rw [if_neg (by omega)]
    · left
      rcases Nat.eq_zero_or_pos D' with h | h
      · subst h
        simp at hb
      · exact h
  | succ D ih =>
    intro out hD hT
    have := left2 V fin cn hcn (D + 1) hD (fun out' h => by
      have e : wrap64 (((D + 1 : Nat) : Int) - 1) = (D : Int) := by rw [w64 (by omega)]; omega
      rw [e]
      exact ih out' (by omega) (h.congr fun D' L' S' => by
        unfold dnF
        constructor
        · rintro ⟨a, b, c, e⟩
          exact ⟨a, b, c, by omega⟩
        · rintro ⟨a, b, c, e⟩
          exact ⟨a, b, c, by omega⟩)) l.length 0 out (by omega) (by omega) hT
    refine Res.step 0 (fun k _ => ?_) this
    simp only [spec_l10Left.l1]
    rw [if_pos (by omega)]
    rfl
theorem left0 : ∀ (d i : Nat) (out : List Int), 2 ^ l.length * 81 - i = d → i ≤ 2 ^ l.length * 81 → out.length = 2 ^ l.length * 81 → (∀ j, j < i → out.getD j 0 = -1) →
    Res (Full l fin cn) (fun k => spec_l10Left.l0 k cn fin l.length ((2 ^ l.length - 1 : Nat) : Int) out i l) := by
  have hn := V.le
  have h9 := pow9 hn
  have h1 := Nat.one_le_two_pow (n := l.length)
  intro d
  induction d with
  | zero =>
    intro i out hd hi hl ho
    have hT : Tab l fin (dnF l.length cn (2 ^ l.length - 1) 0 0) out := by
      refine ⟨hl, fun D L S a b c d => ?_, fun D L S a b c _ => ho _ (by have := ix_lt (n := l.length) a b c; omega)⟩
      obtain ⟨_, _, _, e⟩ := d
      omega
    refine Res.step 0 (fun k _ => ?_) (left1 V fin cn hcn (2 ^ l.length - 1) out (by omega) hT)
    simp only [spec_l10Left.l0]
    rw [if_neg (by omega)]
  | succ d ih =>
    intro i out hd hi hl ho
    have hil : i < 2 ^ l.length * 81 := by omega
    have := ih (i + 1) (out.set i (-1)) (by omega) (by omega) (by rw [List.length_set]; exact hl) (fun j hj => by
      rw [gset _ _ _ _ _ (by omega)]
      by_cases e : j = i
      · rw [if_pos e]
      · rw [if_neg e]
        exact ho j (by omega))
    refine Res.step 0 (fun k _ => ?_) this
    simp only [spec_l10Left.l0]
    rw [if_pos (by omega), if_pos (by omega), Int.toNat_natCast, w64s hil (by omega)]
theorem l10Left : Res (Full l fin cn) (fun k => spec_l10Left.f k l cn fin) := by
  have hn := V.le
  have h9 := pow9 hn
  have h1 := Nat.one_le_two_pow (n := l.length)
  have es : shl .i64 1 (IntKind.u64.wrap (l.length : Int)) = ((2 ^ l.length : Nat) : Int) := by
    rw [u64n hn, shl9 hn, wpow _ hn]
  have u0 : (0 : Int) ≤ IntKind.u64.wrap (l.length : Int) := by rw [u64n hn]; exact Int.natCast_nonneg _
  have e1 : wrap64 (((2 ^ l.length : Nat) : Int) - 1) = ((2 ^ l.length - 1 : Nat) : Int) := by
    rw [w64 (by omega)]
    omega
  have e2 : wrap64 ((wrap64 (((2 ^ l.length - 1 : Nat) : Int) + 1)) * 81) = ((2 ^ l.length * 81 : Nat) : Int) := by
    rw [w64 (x := ((2 ^ l.length - 1 : Nat) : Int) + 1) (by omega), w64 (by omega)]
    omega
  have h := left0 V fin cn hcn (2 ^ l.length * 81) 0 (List.replicate (2 ^ l.length * 81) 0) (Nat.sub_zero _) (Nat.zero_le _) (List.length_replicate ..) (fun j hj => absurd hj (Nat.not_lt_zero _))
  obtain ⟨r, hr, hF⟩ := h
  refine ⟨r, hr.same 0 (fun k _ => ?_), hF⟩
  unfold spec_l10Left.f
  rw [if_pos u0, es, e1, e2, if_pos (Int.natCast_nonneg _), Int.toNat_natCast, if_pos (by omega)]
  rfl
end
end Go.Proofs.Ytaapbnhggfmlpaa.B
end
section
set_option linter.unusedVariables false
namespace Go.Proofs.Ytaapbnhggfmlpaa.B
open Go.RowKit Go.Proofs.Ytaapbnhggfmlpaa.P Go.Proofs.YtaapbnhggfmlpaaW.PrintWords Go.Proofs.YtaapbnhggfmlpaaW.PrintLast Go.Proofs.YtaapbnhggfmlpaaW.PrintMore Go.Proofs.Ytaapbnhggfmlpaa.A Go.Proofs.Ytaapbnhggfmlpaa.M
attribute [local irreducible] lf
section
variable {l : List (List Int)} (V : Valid l) (fin : Int)
include V
theorem good_ex {D L S : Nat} (hD : D < 2 ^ l.length) (hL : L < l.length) (hS : S ≤ 9) (h0 : 0 ≤ lf l fin ⟨D, L, S⟩) (hne : D ≠ 2 ^ l.length - 1) : ∃ x ∈ itms l fin ⟨D, L, S⟩ l.length, 0 ≤ lf l fin x.t ∧ lf l fin x.t + x.c = lf l fin ⟨D, L, S⟩ := by
  have ht : Tk l.length ⟨D, L, S⟩ := ⟨D, L, S, rfl, hD, hL, hS⟩
  obtain ⟨p, hp⟩ := (lf_min (fin := fin) V _ _ rfl ht).mem h0
  simp only [Int.toNat_natCast] at hp
  obtain ⟨x, hx, b, q, c', rfl, hc, hq⟩ := cmp_item V hD hp hne
  have hxt := (itms_ok V.le ht x hx).1
  have hle := (lf_min (fin := fin) V _ x.t rfl hxt).le ⟨q, hq⟩
  obtain ⟨q', hq'⟩ := (lf_min (fin := fin) V _ x.t rfl hxt).mem hle.1
  obtain ⟨b', hb'⟩ := item_cmp V hD hx hq'
  have hle2 := (lf_min (fin := fin) V _ ⟨D, L, S⟩ rfl ht).le ⟨_, by simpa using hb'⟩
  exact ⟨x, hx, hle.1, by omega⟩
end
/-- One more number of shields that may be left. -/
def addS (l : List (List Int)) (fin : Int) (E w : Nat) (nx : List Nat) (s : Nat) (goal : Int) : List Nat :=
  if goal < 0 ∨ lf l fin ⟨E, w, s⟩ ≠ goal ∨ s ∈ nx then nx else nx ++ [s]
def stepS (l : List (List Int)) (fin : Int) (D L w : Nat) (nx : List Nat) (s : Nat) : List Nat :=
  if 0 < s then addS l fin (D ||| 2 ^ w) w (addS l fin (D ||| 2 ^ w) w nx s (lf l fin ⟨D, L, s⟩ - Wt l L w)) (s - 1) (lf l fin ⟨D, L, s⟩)
  else addS l fin (D ||| 2 ^ w) w nx s (lf l fin ⟨D, L, s⟩ - Wt l L w)
theorem mem_addS {l : List (List Int)} {fin : Int} {E w : Nat} {nx : List Nat} {s : Nat} {goal : Int} (u : Nat) : u ∈ addS l fin E w nx s goal ↔ u ∈ nx ∨ (u = s ∧ 0 ≤ goal ∧ lf l fin ⟨E, w, s⟩ = goal) := by
  unfold addS
  by_cases c : goal < 0 ∨ lf l fin ⟨E, w, s⟩ ≠ goal ∨ s ∈ nx
  · rw [if_pos c]
    constructor
    · exact .inl
    · rintro (h | ⟨rfl, h1, h2⟩)
      · exact h
      · rcases c with c | c | c
        · omega
        · exact absurd h2 c
        · exact c
  · rw [if_neg c, List.mem_append, List.mem_singleton]
    constructor
    · rintro (h | rfl)
      · exact .inl h
      · refine .inr ⟨rfl, ?_, ?_⟩
        · have := fun h => c (.inl h)
          omega
        · exact Classical.byContradiction fun h => c (.inr (.inl h))
    · rintro (h | ⟨rfl, _⟩)
      · exact .inl h
      · exact .inr rfl
theorem mem_stepS {l : List (List Int)} {fin : Int} {D L w : Nat} {nx : List Nat} {s : Nat} (u : Nat) : u ∈ stepS l fin D L w nx s ↔ u ∈ nx ∨ (u = s ∧ 0 ≤ lf l fin ⟨D, L, s⟩ - Wt l L w ∧ lf l fin ⟨(D ||| 2 ^ w : Nat), w, s⟩ = lf l fin ⟨D, L, s⟩ - Wt l L w) ∨ (s = u + 1 ∧ 0 ≤ lf l fin ⟨D, L, s⟩ ∧ lf l fin ⟨(D ||| 2 ^ w : Nat), w, u⟩ = lf l fin ⟨D, L, s⟩) := by
  unfold stepS
  by_cases c : 0 < s
  · rw [if_pos c, mem_addS, mem_addS]
    constructor
    · rintro ((h | h) | ⟨rfl, h⟩)
      · exact .inl h
      · exact .inr (.inl h)
      · exact .inr (.inr ⟨by omega, h⟩)
    · rintro (h | h | ⟨h1, h2⟩)
      · exact .inl (.inl h)
      · exact .inl (.inr h)
      · have e : s - 1 = u := by omega
        exact .inr ⟨e.symm, by rw [e]; exact h2⟩
  · rw [if_neg c, mem_addS]
    constructor
    · rintro (h | h)
      · exact .inl h
      · exact .inr (.inl h)
    · rintro (h | h | ⟨h1, _⟩)
      · exact .inl h
      · exact .inr h
      · omega
theorem mem_foldS {l : List (List Int)} {fin : Int} {D L w : Nat} (u : Nat) : ∀ (sk nx : List Nat), u ∈ sk.foldl (stepS l fin D L w) nx ↔ u ∈ nx ∨ ∃ s ∈ sk, (u = s ∧ 0 ≤ lf l fin ⟨D, L, s⟩ - Wt l L w ∧ lf l fin ⟨(D ||| 2 ^ w : Nat), w, s⟩ = lf l fin ⟨D, L, s⟩ - Wt l L w) ∨ (s = u + 1 ∧ 0 ≤ lf l fin ⟨D, L, s⟩ ∧ lf l fin ⟨(D ||| 2 ^ w : Nat), w, u⟩ = lf l fin ⟨D, L, s⟩)
  | [], nx => by simp
  | s :: sk, nx => by
    rw [List.foldl_cons, mem_foldS u sk, mem_stepS]
    constructor
    · rintro ((h | h) | ⟨s', h1, h2⟩)
      · exact .inl h
      · exact .inr ⟨s, List.mem_cons_self .., h⟩
      · exact .inr ⟨s', List.mem_cons_of_mem _ h1, h2⟩
    · rintro (h | ⟨s', h1, h2⟩)
      · exact .inl (.inl h)
      · rcases List.mem_cons.1 h1 with rfl | h1
        · exact .inl (.inr h2)
        · exact .inr ⟨s', h1, h2⟩
/-- The tasks behind a set, a last wire and numbers of shields. -/
def tks (D L : Nat) (sk : List Nat) : List T3 := sk.map fun s : Nat => ⟨D, L, s⟩
section
variable {l : List (List Int)} (V : Valid l) (fin : Int)
include V
/-- What the reference finds for a wire are the good choices of the planner. -/
theorem good_iff {D L w : Nat} {sk : List Nat} (hD : D < 2 ^ l.length) (hL : L < l.length) (hsk : ∀ s ∈ sk, s ≤ 8) (hw : w < l.length) (hb : D.testBit w = false) (u : T3) :
    (∃ x, Gd l fin (· ∈ tks D L sk) x ∧ x.w = w ∧ x.t = u) ↔ ∃ s', s' ∈ sk.foldl (stepS l fin D L w) [] ∧ u = ⟨(D ||| 2 ^ w : Nat), w, s'⟩ := by
  have hn := V.le
  constructor
  · rintro ⟨x, ⟨t, ht, hx, hg⟩, rfl, rfl⟩
    obtain ⟨s, hs, rfl⟩ := List.mem_map.1 ht
    have hs8 := hsk s hs
    have hg2 := (gw_iff (fin := fin) V hD hL (by omega) hx _).1 hg
    obtain ⟨i, hi, hns, hx2⟩ := (mem_itms hn hD x).1 hx
    rcases hx2 with rfl | ⟨S', rfl, rfl⟩
    all_goals dsimp only at hg2 ⊢
    · exact ⟨s, (mem_foldS s sk []).2 (.inr ⟨s, hs, .inl ⟨rfl, by omega, by omega⟩⟩), rfl⟩
    · exact ⟨S', (mem_foldS S' sk []).2 (.inr ⟨S' + 1, hs, .inr ⟨rfl, by omega, by omega⟩⟩), rfl⟩
  · rintro ⟨s', hs', rfl⟩
    rcases (mem_foldS s' sk []).1 hs' with h | ⟨s, hs, h⟩
    · cases h
    have hs8 := hsk s hs
    -- what is passed by has nothing left
    have hnp : ∀ S' : Nat, S' ≤ 9 → 0 ≤ lf l fin ⟨(D ||| 2 ^ w : Nat), w, S'⟩ → ¬ skipb l.length fin D w := by
      intro S' hS' h0 hsk
      rcases (skipb_nat hn hD).1 hsk with h | ⟨h1, h2⟩
      · rw [hb] at h; cases h
      · have := lf_pruned V fin hD hw hS' h1 h2
        omega
    rcases h with ⟨rfl, h1, h2⟩ | ⟨rfl, h1, h2⟩
    · have hx : (⟨w, Wt l L w, ⟨(D ||| 2 ^ w : Nat), w, s'⟩⟩ : Itm) ∈ itms l fin ⟨D, L, s'⟩ l.length := (mem_itms hn hD _).2 ⟨w, hw, hnp s' (by omega) (by omega), .inl rfl⟩
      exact ⟨_, ⟨_, List.mem_map.2 ⟨s', hs, rfl⟩, hx, (gw_iff (fin := fin) V hD hL (by omega) hx _).2 ⟨by dsimp only; omega, by dsimp only; omega⟩⟩, rfl, rfl⟩
    · have hx : (⟨w, 0, ⟨(D ||| 2 ^ w : Nat), w, s'⟩⟩ : Itm) ∈ itms l fin ⟨D, L, (s' + 1 : Nat)⟩ l.length := (mem_itms hn hD _).2 ⟨w, hw, hnp s' (by omega) (by omega), .inr ⟨s', rfl, rfl⟩⟩
      exact ⟨_, ⟨_, List.mem_map.2 ⟨s' + 1, hs, rfl⟩, hx, (gw_iff (fin := fin) V hD hL (by omega) hx _).2 ⟨by dsimp only; omega, by dsimp only; omega⟩⟩, rfl, rfl⟩
/-- The next wire of the reference is the planner's. -/
theorem next_is {D L w : Nat} {sk : List Nat} (hD : D < 2 ^ l.length) (hL : L < l.length) (hsk : ∀ s ∈ sk, s ≤ 8) (hw : w < l.length) (hb : D.testBit w = false) (hne : sk.foldl (stepS l fin D L w) [] ≠ [])
    (hmin : ∀ v, v < w → D.testBit v = false → sk.foldl (stepS l fin D L v) [] = []) (kk : Nat) (out : List Int) (hlen : out.length < l.length) :
    ordR l fin (kk + 1) (tks D L sk) out = ordR l fin kk (tks (D ||| 2 ^ w) w (sk.foldl (stepS l fin D L w) [])) (out ++ [(w : Int)]) := by
  have hn := V.le
  have htk : ∀ t ∈ tks D L sk, Tk l.length t := by
    intro t ht
    obtain ⟨s, hs, rfl⟩ := List.mem_map.1 ht
    have := hsk s hs
    exact ⟨D, L, s, rfl, hD, hL, by omega⟩
  have hnx : NX l.length (Gd l fin (· ∈ tks D L sk)) ((w : Int), tks (D ||| 2 ^ w) w (sk.foldl (stepS l fin D L w) [])) := by
    have hgl : ∀ x, Gd l fin (· ∈ tks D L sk) x → x.w < l.length ∧ D.testBit x.w = false := by
      rintro x ⟨t, ht, hx, _⟩
      have h0 := htk t ht
      obtain ⟨s, hs, rfl⟩ := List.mem_map.1 ht
      have h := itms_ok hn h0 x hx
      exact ⟨h.2.2.1, by simpa using h.2.2.2.1⟩
    refine ⟨by simp only; omega, fun x hx => ?_, fun _ => ?_, fun u => ?_, fun x hx => (hgl x hx).1⟩
    · obtain ⟨h1, h2⟩ := hgl x hx
      simp only
      by_cases c : x.w < w
      · obtain ⟨s', hs', _⟩ := (good_iff V fin hD hL hsk h1 h2 x.t).1 ⟨x, hx, rfl, rfl⟩
        rw [hmin x.w c h2] at hs'
        cases hs'
      · omega
    · obtain ⟨s', hs'⟩ := List.exists_mem_of_ne_nil _ hne
      obtain ⟨x, hx, e, _⟩ := (good_iff V fin hD hL hsk hw hb ⟨(D ||| 2 ^ w : Nat), w, s'⟩).2 ⟨s', hs', rfl⟩
      exact ⟨x, hx, by simp only; rw [e]⟩
    · have hg := good_iff V fin hD hL hsk hw hb u
      unfold tks at hg ⊢
      rw [List.mem_map]
      constructor
      · rintro ⟨s', hs', rfl⟩
        obtain ⟨x, h1, h2, h3⟩ := hg.2 ⟨s', hs', rfl⟩
        exact ⟨x, h1, by simp only; rw [h2], h3⟩
      · rintro ⟨x, h1, h2, h3⟩
        obtain ⟨s', hs', e⟩ := hg.1 ⟨x, h1, by simp only at h2; omega, h3⟩
        exact ⟨s', hs', e.symm⟩
  obtain ⟨e1, e2⟩ := hnx.unique (nextF_nx (fin := fin) hn htk)
  conv => lhs; unfold ordR
  rw [if_pos hlen, ← e1]
  exact ordR_set hn kk _ _ _ (nextF_tk hn htk) (fun t => (e2 t).symm)
end
end Go.Proofs.Ytaapbnhggfmlpaa.B
end
section
set_option linter.unusedVariables false
namespace Go.Proofs.Ytaapbnhggfmlpaa.B
open Go.RowKit Go.Proofs.Ytaapbnhggfmlpaa.P Go.Proofs.YtaapbnhggfmlpaaW.PrintWords Go.Proofs.YtaapbnhggfmlpaaW.PrintLast Go.Proofs.YtaapbnhggfmlpaaW.PrintMore Go.Proofs.Ytaapbnhggfmlpaa.A Go.Proofs.Ytaapbnhggfmlpaa.M
attribute [local irreducible] lf
theorem hasF0 (xs : List Int) (a : Int) (hl : xs.length ≤ 1048576) : ∀ (d k i : Nat), xs.length - i = d → d < k → i ≤ xs.length → spec_l00Has.l0 k xs a i = some (decide (a ∈ xs.drop i)) := by
  intro d
  induction d with
  | zero =>
    intro k i hd hk hi
    obtain ⟨k, rfl⟩ : ∃ m, k = m + 1 := ⟨k - 1, by omega⟩
    simp only [spec_l00Has.l0]
    rw [if_neg (by omega), List.drop_eq_nil_of_le (by omega)]
    simp
  | succ d ih =>
    intro k i hd hk hi
    obtain ⟨k, rfl⟩ : ∃ m, k = m + 1 := ⟨k - 1, by omega⟩
    have hil : i < xs.length := by omega
    simp only [spec_l00Has.l0]
    have hdr := List.drop_eq_getElem_cons hil
    rw [if_pos (by omega), if_pos (by omega), rd_nat]
    have e : xs.getD i 0 = xs[i] := by simp [List.getD_eq_getElem?_getD, List.getElem?_eq_getElem hil]
    rw [e]
    by_cases c : xs[i] = a
    · rw [if_pos c, hdr]; simp [c]
    · rw [if_neg c, w64s hil (by omega), ih k (i + 1) (by omega) (by omega) (by omega), hdr]
      congr 1
      rw [decide_eq_decide]
      exact ⟨List.mem_cons_of_mem _, fun h => (List.mem_cons.1 h).resolve_left (fun e => c e.symm)⟩
theorem hasF (xs : List Int) (a : Int) (k : Nat) (hl : xs.length ≤ 1048576) (hk : xs.length < k) : spec_l00Has.f k xs a = some (decide (a ∈ xs)) := by
  unfold spec_l00Has.f
  rw [show (0 : Int) = ((0 : Nat) : Int) from rfl, hasF0 xs a hl xs.length k 0 rfl hk (by omega)]
  rfl
theorem up_getD' (S : List Nat) (i : Nat) : (up S).getD i 0 = ((S.getD i 0 : Nat) : Int) := by
  unfold up
  simp only [List.getD_eq_getElem?_getD, List.getElem?_map]
  cases S[i]? <;> simp
def rs (l : List (List Int)) (fin : Int) (E w : Nat) (nx : List Nat) : List Int := nx.map fun s : Nat => lf l fin ⟨E, w, s⟩
theorem rs_len (l : List (List Int)) (fin : Int) (E w : Nat) (nx : List Nat) : (rs l fin E w nx).length = nx.length := by unfold rs; exact List.length_map ..
theorem map_getD_ {F : Nat → Int} {nx : List Nat} {j : Nat} (h : j < nx.length) : (nx.map F).getD j 0 = F (nx.getD j 0) := by
  simp [List.getD_eq_getElem?_getD, h]
theorem rs_getD {l : List (List Int)} {fin : Int} {E w : Nat} {nx : List Nat} {j : Nat} (h : j < nx.length) : (rs l fin E w nx).getD j 0 = lf l fin ⟨E, w, (nx.getD j 0 : Nat)⟩ := by
  exact map_getD_ (F := fun s : Nat => lf l fin ⟨E, w, s⟩) h
theorem addS_len {l : List (List Int)} {fin : Int} {E w : Nat} {nx : List Nat} {s : Nat} {goal : Int} : (addS l fin E w nx s goal).length ≤ nx.length + 1 := by
  unfold addS
  split
  · omega
  · simp
/-- Where a wire's numbers begin in the table. -/
def toW (E w : Nat) : Int := ((E : Int) * 9 + w) * 9
theorem toW_eq {E w : Nat} (hE : E < 512) (hw : w < 9) : wrap64 (wrap64 (wrap64 ((E : Int) * 9) + w) * 9) = toW E w := by
  rw [w64 (x := (E : Int) * 9) (by omega), w64 (x := (E : Int) * 9 + w) (by omega), w64 (by omega)]
  rfl
theorem toW_ix {E w s sh : Nat} (hE : E < 512) (hw : w < 9) (hs : s < 9) (h : sh ≤ s) : wrap64 (wrap64 (toW E w + s) - sh) = (ix E w (s - sh) : Int) := by
  unfold toW
  rw [w64 (x := ((E : Int) * 9 + w) * 9 + s) (by omega), w64 (by omega)]
  unfold ix
  omega
section
variable {l : List (List Int)} {fin : Int} {cn : Nat} {tab : List Int} {r : List Int × Int} {first least : Int}
/-- One number of shields is looked at: the goal is known. -/
theorem fol8 (hn : l.length ≤ 9) (hT : Full l fin cn tab) (hcn : cn ≤ 8) {E w D : Nat} {out gl : List Int} {sk nx : List Nat} {j sh s : Nat} {goal : Int} {fd : Bool} (hE : E < 2 ^ l.length) (hE9 : E < 512) (hw : w < l.length) (hEw : E.testBit w = true) (hj : j < sk.length) (hskl : sk.length ≤ 1000) (hs : sk.getD j 0 = s) (hsc : s ≤ cn) (hsh : sh ≤ s) (hsh1 : sh ≤ 1) (hnx : nx.length ≤ 1000)
    (H : Evl (fun k => spec_l10Follow.l4 k first l.length tab least out (up sk) gl D fd w (up (addS l fin E w nx (s - sh) goal)) (rs l fin E w (addS l fin E w nx (s - sh) goal)) (toW E w) j ((sh + 1 : Nat) : Int) l) r) :
    Evl (fun k => spec_l10Follow.j8 k first l.length tab least out (up sk) gl D fd w (up nx) (rs l fin E w nx) (toW E w) j sh goal l) r := by
  have hw9 : w < 9 := by omega
  have hs9 : s < 9 := by omega
  have eix : Aside0 (wrap64 (wrap64 (toW E w + s) - sh) = (ix E w (s - sh) : Int)) := ⟨toW_ix hE9 hw9 hs9 hsh⟩
  have esh : Aside0 (wrap64 ((sh : Int) + 1) = ((sh + 1 : Nat) : Int)) := ⟨w64s (n := 2) (by omega) (by decide)⟩
  have esub : Aside0 (wrap64 ((s : Int) - sh) = ((s - sh : Nat) : Int)) := ⟨by rw [w64 (by omega)]; omega⟩
  have hrd : Aside0 (rd (up sk) (j : Int) = (s : Int)) := ⟨by rw [rd_nat, up_getD', hs]⟩
  have htab : Aside0 (rd tab ((ix E w (s - sh) : Nat) : Int) = lf l fin ⟨E, w, (s - sh : Nat)⟩) := ⟨by rw [rd_nat]; exact hT.2 E w (s - sh) hE hw (by omega) hEw⟩
  have hlen : ((ix E w (s - sh) : Nat) : Int) < (tab.length : Int) := by
    have := ix_lt (n := l.length) hE hw9 (show s - sh < 9 by omega)
    have := hT.1
    omega
  have hup : ((up sk).length : Int) = (sk.length : Int) := by rw [up_length]
  have yes9 : addS l fin E w nx (s - sh) goal = nx → Evl (fun k => spec_l10Follow.j9 k first l.length tab least out (up sk) gl D fd w (up nx) (rs l fin E w nx) (toW E w) j sh goal true l) r := by
    intro e
    rw [e] at H
    refine Evl.step 0 (fun k _ => ?_) H
    simp only [spec_l10Follow.j9]
    rw [if_pos trivial, esh.out]
  have no9 : addS l fin E w nx (s - sh) goal = nx ++ [s - sh] → lf l fin ⟨E, w, (s - sh : Nat)⟩ = goal → Evl (fun k => spec_l10Follow.j9 k first l.length tab least out (up sk) gl D fd w (up nx) (rs l fin E w nx) (toW E w) j sh goal false l) r := by
    intro e eg
    rw [e] at H
    refine Evl.step 0 (fun k _ => ?_) H
    simp only [spec_l10Follow.j9]
    rw [if_neg (by decide), if_pos (Int.natCast_nonneg j), if_pos (by rw [hup]; omega), if_pos (by rw [up_length]; omega), if_pos (by rw [rs_len]; omega), hrd.out, esub.out, esh.out, up_snoc]
    have : rs l fin E w (nx ++ [s - sh]) = rs l fin E w nx ++ [goal] := by
      unfold rs
      rw [List.map_append, ← eg]
      rfl
    rw [this]
  by_cases c : goal < 0
  · refine Evl.step 0 (fun k _ => ?_) (yes9 (by unfold addS; rw [if_pos (.inl c)]))
    simp only [spec_l10Follow.j8]
    rw [if_pos c]
  · have base : ∀ k, spec_l10Follow.j8 (k + 1) first l.length tab least out (up sk) gl D fd w (up nx) (rs l fin E w nx) (toW E w) j sh goal l = if lf l fin ⟨E, w, (s - sh : Nat)⟩ = goal then ((spec_l00Has.f k (up nx) ((s - sh : Nat) : Int)).bind fun t => spec_l10Follow.j9 k first l.length tab least out (up sk) gl D fd w (up nx) (rs l fin E w nx) (toW E w) j sh goal t l) else spec_l10Follow.j9 k first l.length tab least out (up sk) gl D fd w (up nx) (rs l fin E w nx) (toW E w) j sh goal true l := by
      intro k
      simp only [spec_l10Follow.j8]
      rw [if_neg c, if_pos (Int.natCast_nonneg j), if_pos (by rw [hup]; omega), hrd.out, eix.out, if_pos (Int.natCast_nonneg _), if_pos hlen, htab.out, esub.out]
    by_cases ce : lf l fin ⟨E, w, (s - sh : Nat)⟩ = goal
    · by_cases cm : s - sh ∈ nx
      · refine Evl.step (nx.length + 1) (fun k hk => ?_) (yes9 (by unfold addS; rw [if_pos (.inr (.inr cm))]))
        rw [base k, if_pos ce, hasF _ _ _ (by rw [up_length]; omega) (by rw [up_length]; omega), decide_eq_true ((up_mem _ _).2 cm)]
        rfl
      · refine Evl.step (nx.length + 1) (fun k hk => ?_) (no9 (by
          unfold addS
          rw [if_neg]
          rintro (h | h | h)
          · exact c h
          · exact h ce
          · exact cm h) ce)
        rw [base k, if_pos ce, hasF _ _ _ (by rw [up_length]; omega) (by rw [up_length]; omega), decide_eq_false (fun h => cm ((up_mem _ _).1 h))]
        rfl
    · refine Evl.step 0 (fun k _ => ?_) (yes9 (by unfold addS; rw [if_pos (.inr (.inl ce))]))
      rw [base k, if_neg ce]
/-- What a round over the wires knows. -/
structure Rnd (l : List (List Int)) (fin : Int) (cn : Nat) (tab : List Int) (D L : Nat) (out gl : List Int) (sk : List Nat) : Prop where
  full : Full l fin cn tab
  cn8 : cn ≤ 8
  hD : D < 2 ^ l.length
  hL : L < l.length
  pos : 0 < out.length
  lo : out.length ≤ 9
  last : out.getD (out.length - 1) 0 = (L : Int)
  gll : gl.length = sk.length
  hgl : ∀ j, j < sk.length → gl.getD j 0 = lf l fin ⟨D, L, (sk.getD j 0 : Nat)⟩
  hsk : ∀ s ∈ sk, s ≤ cn
  skl : sk.length ≤ 400
/-- Both shields of one number, with the goal and the weight by name. -/
theorem fol4g {n E w D L s : Nat} {g W : Int} {out gl : List Int} {sk nx nx1 nx2 : List Nat} {j : Nat} {fd : Bool} (hln : l.length = n) (hn : n ≤ 9) (hT : Full l fin cn tab) (hcn : cn ≤ 8) (hEl : E < 2 ^ l.length) (hE9 : E < 512) (hEw : E.testBit w = true) (hw : w < n) (hL : L < n) (hj : j < sk.length) (hskl : sk.length ≤ 400) (hnx : nx.length ≤ 900)
    (hs : Aside0 (sk.getD j 0 = s)) (hsc : s ≤ cn) (hg : Aside0 (gl.getD j 0 = g)) (hgll : gl.length = sk.length) (hgb : -1 ≤ g ∧ g ≤ 9000) (hW : 0 ≤ W ∧ W ≤ 1000) (hrow : Aside0 ((l.getD L []).length = l.length)) (hWt : Aside0 ((l.getD L []).getD w 0 = W)) (hpos : 0 < out.length) (hlo : out.length ≤ 9) (hlast : Aside0 (out.getD (out.length - 1) 0 = (L : Int)))
    (h1 : Aside0 (nx1 = addS l fin E w nx s (g - W))) (h2 : Aside0 (nx2 = if 0 < s then addS l fin E w nx1 (s - 1) g else nx1))
    (H : Evl (fun k => spec_l10Follow.l3 k first l.length tab least out (up sk) gl D fd w (up nx2) (rs l fin E w nx2) (toW E w) ((j + 1 : Nat) : Int) l) r) :
    Evl (fun k => spec_l10Follow.l4 k first l.length tab least out (up sk) gl D fd w (up nx) (rs l fin E w nx) (toW E w) j 0 l) r := by
  have hup : ((up sk).length : Int) = (sk.length : Int) := by rw [up_length]
  have hjup : (j : Int) < ((up sk).length : Int) := by rw [hup]; omega
  have hjgl : (j : Int) < (gl.length : Int) := by omega
  have hLl : (L : Int) < (l.length : Int) := by omega
  have hwl : w < l.length := by omega
  have hwl2 : (w : Int) < (l.length : Int) := by omega
  have hn0 : ¬ (out.length : Int) = 0 := by omega
  have hm0 : (0 : Int) ≤ (if (1 : Int) < (s : Int) then 1 else (s : Int)) := by split <;> omega
  have hm1 : 0 < s → ((0 + 1 : Nat) : Int) ≤ (if (1 : Int) < (s : Int) then 1 else (s : Int)) := fun h => by split <;> omega
  have hm2 : ¬ ((2 : Nat) : Int) ≤ (if (1 : Int) < (s : Int) then 1 else (s : Int)) := by split <;> omega
  have hm3 : ¬ 0 < s → ¬ ((0 + 1 : Nat) : Int) ≤ (if (1 : Int) < (s : Int) then 1 else (s : Int)) := fun h => by split <;> omega
  have hj1 : Aside0 (wrap64 ((j : Int) + 1) = ((j + 1 : Nat) : Int)) := ⟨w64s (n := 1000) (by omega) (by decide)⟩
  have hg0 : Aside0 (wrap64 (g - W) = g - W) := ⟨w64 (by omega)⟩
  have hom : wrap64 ((out.length : Int) - 1) = ((out.length - 1 : Nat) : Int) := by rw [w64 (by omega)]; omega
  have hi0 : 0 ≤ wrap64 ((out.length : Int) - 1) := by rw [hom]; exact Int.natCast_nonneg _
  have hi1 : wrap64 ((out.length : Int) - 1) < (out.length : Int) := by rw [hom]; omega
  have hrd : Aside0 (rd (up sk) (j : Int) = (s : Int)) := ⟨by rw [rd_nat, up_getD', hs.out]⟩
  have hgl : Aside0 (rd gl (j : Int) = g) := ⟨by rw [rd_nat]; exact hg.out⟩
  have hla : Aside0 (rd out (wrap64 ((out.length : Int) - 1)) = (L : Int)) := ⟨by rw [hom, rd_nat]; exact hlast.out⟩
  have hl1 : nx1.length ≤ nx.length + 1 := by rw [h1.out]; exact addS_len
  have exit_ : ∀ (sh : Nat), ¬ (sh : Int) ≤ (if (1 : Int) < (s : Int) then 1 else (s : Int)) → Evl (fun k => spec_l10Follow.l4 k first l.length tab least out (up sk) gl D fd w (up nx2) (rs l fin E w nx2) (toW E w) j sh l) r := by
    intro sh hsh
    refine Evl.step 0 (fun k _ => ?_) H
    simp only [spec_l10Follow.l4]
    rw [if_pos (Int.natCast_nonneg j), if_pos hjup, hrd.out, min1]
    simp only [Option.bind_some]
    rw [if_neg hsh, hj1.out]
  have hmid : Evl (fun k => spec_l10Follow.l4 k first l.length tab least out (up sk) gl D fd w (up nx1) (rs l fin E w nx1) (toW E w) j ((0 + 1 : Nat) : Int) l) r := by
    by_cases c : 0 < s
    · have e := h2.out
      rw [if_pos c] at e
      have hx := exit_ 2 hm2
      rw [e] at hx
      have h8 := fol8 (first := first) (least := least) (by omega) hT hcn (E := E) (w := w) (D := D) (out := out) (gl := gl) (sk := sk) (nx := nx1) (j := j) (sh := 1) (s := s) (goal := g) (fd := fd) hEl hE9 hwl hEw hj (by omega) hs.out hsc c (Nat.le_refl _) (by omega) hx
      refine Evl.step 0 (fun k _ => ?_) h8
      simp only [spec_l10Follow.l4]
      rw [if_pos (Int.natCast_nonneg j), if_pos hjup, hrd.out, min1]
      simp only [Option.bind_some]
      rw [if_pos (hm1 c), if_pos hjgl, if_neg hn0, if_neg (by decide), hgl.out]
    · have e := h2.out
      rw [if_neg c] at e
      have hx := exit_ (0 + 1) (hm3 c)
      rw [e] at hx
      exact hx
  have h8 := fol8 (first := first) (least := least) (by omega) hT hcn (E := E) (w := w) (D := D) (out := out) (gl := gl) (sk := sk) (nx := nx) (j := j) (sh := 0) (s := s) (goal := g - W) (fd := fd) hEl hE9 hwl hEw hj (by omega) hs.out hsc (Nat.zero_le _) (by decide) (by omega) (by rw [Nat.sub_zero, ← h1.out]; exact hmid)
  refine Evl.step 0 (fun k _ => ?_) h8
  simp only [spec_l10Follow.l4]
  rw [if_pos (Int.natCast_nonneg j), if_pos hjup, hrd.out, min1]
  simp only [Option.bind_some]
  rw [if_pos hm0, if_pos hjgl, if_neg hn0, if_pos trivial, if_pos hi0, if_pos hi1, hla.out, if_pos (Int.natCast_nonneg L), if_pos hLl, if_pos (Int.natCast_nonneg w), rdL_nat, hrow.out, if_pos hwl2, hgl.out, rd_nat, hWt.out, hg0.out]
  rfl
theorem fol4 (V : Valid l) {E w D L : Nat} {out gl : List Int} {sk nx : List Nat} {j : Nat} {fd : Bool} (R : Rnd l fin cn tab D L out gl sk) (hE : E = D ||| 2 ^ w) (hw : w < l.length) (hj : j < sk.length) (hnx : nx.length ≤ 900)
    (H : Evl (fun k => spec_l10Follow.l3 k first l.length tab least out (up sk) gl D fd w (up (stepS l fin D L w nx (sk.getD j 0))) (rs l fin E w (stepS l fin D L w nx (sk.getD j 0))) (toW E w) ((j + 1 : Nat) : Int) l) r) :
    Evl (fun k => spec_l10Follow.l4 k first l.length tab least out (up sk) gl D fd w (up nx) (rs l fin E w nx) (toW E w) j 0 l) r := by
  have hn := V.le
  have h9 := pow9 hn
  have hEl : E < 2 ^ l.length := by rw [hE]; exact or_lt R.hD hw
  have hEw : E.testBit w = true := by rw [hE, testBit_or_pow]; simp
  have hsc : sk.getD j 0 ≤ cn := R.hsk _ (getD_mem hj)
  have hcn := R.cn8
  have hgb := lf_bd (fin := fin) V (t := ⟨D, L, (sk.getD j 0 : Nat)⟩) ⟨D, L, sk.getD j 0, rfl, R.hD, R.hL, Nat.le_trans hsc (Nat.le_trans hcn (by decide))⟩
  refine fol4g (W := Wt l L w) rfl hn R.full hcn hEl (Nat.lt_of_lt_of_le hEl h9) hEw hw R.hL hj R.skl hnx ⟨rfl⟩ hsc ⟨R.hgl j hj⟩ R.gll hgb (V.bound L w R.hL hw) ⟨V.row L R.hL⟩ ⟨rfl⟩ R.pos R.lo ⟨R.last⟩ ⟨rfl⟩ ⟨?_⟩ H
  unfold stepS
  rw [hE]
theorem foldS_len {D L w : Nat} : ∀ (sk nx : List Nat), (sk.foldl (stepS l fin D L w) nx).length ≤ nx.length + 2 * sk.length
  | [], nx => by simp
  | s :: sk, nx => by
    rw [List.foldl_cons]
    have h1 := foldS_len (D := D) (L := L) (w := w) sk (stepS l fin D L w nx s)
    have h2 : (stepS l fin D L w nx s).length ≤ nx.length + 2 := by
      unfold stepS
      split
      · have a := addS_len (l := l) (fin := fin) (E := D ||| 2 ^ w) (w := w) (nx := nx) (s := s) (goal := lf l fin ⟨D, L, s⟩ - Wt l L w)
        have b := addS_len (l := l) (fin := fin) (E := D ||| 2 ^ w) (w := w) (nx := addS l fin (D ||| 2 ^ w) w nx s (lf l fin ⟨D, L, s⟩ - Wt l L w)) (s := s - 1) (goal := lf l fin ⟨D, L, s⟩)
        omega
      · have a := addS_len (l := l) (fin := fin) (E := D ||| 2 ^ w) (w := w) (nx := nx) (s := s) (goal := lf l fin ⟨D, L, s⟩ - Wt l L w)
        omega
    simp only [List.length_cons]
    omega
theorem fol3 (V : Valid l) {E w D L : Nat} {out gl : List Int} {sk : List Nat} {fd : Bool} (R : Rnd l fin cn tab D L out gl sk) (hE : E = D ||| 2 ^ w) (hw : w < l.length)
    (hyes : sk.foldl (stepS l fin D L w) [] ≠ [] → Evl (fun k => spec_l10Follow.l2 k first l.length tab least (out ++ [(w : Int)]) (up (sk.foldl (stepS l fin D L w) [])) (rs l fin E w (sk.foldl (stepS l fin D L w) [])) E true ((w + 1 : Nat) : Int) l) r)
    (hno : sk.foldl (stepS l fin D L w) [] = [] → Evl (fun k => spec_l10Follow.l2 k first l.length tab least out (up sk) gl D fd ((w + 1 : Nat) : Int) l) r) :
    ∀ (d j : Nat), sk.length - j = d → j ≤ sk.length → Evl (fun k => spec_l10Follow.l3 k first l.length tab least out (up sk) gl D fd w (up ((sk.take j).foldl (stepS l fin D L w) [])) (rs l fin E w ((sk.take j).foldl (stepS l fin D L w) [])) (toW E w) j l) r := by
  have hn := V.le
  have h9 := pow9 hn
  have hup : ((up sk).length : Int) = (sk.length : Int) := by rw [up_length]
  have hskl := R.skl
  have eo : Aside0 (Go.bits .or .i64 (D : Int) (shl .i64 1 (IntKind.u64.wrap (w : Int))) = (E : Int)) := ⟨by
    rw [u64n (by omega), shl9 (by omega), hE]
    exact setb_nat D w (by have := R.hD; omega) (by omega)⟩
  have u0 : Aside0 ((0 : Int) ≤ IntKind.u64.wrap (w : Int)) := ⟨by rw [u64n (by omega)]; exact Int.natCast_nonneg w⟩
  intro d
  induction d with
  | zero =>
    intro j hd hj
    obtain rfl : j = sk.length := by omega
    rw [List.take_length]
    by_cases c : sk.foldl (stepS l fin D L w) [] = []
    · refine Evl.step 0 (fun k _ => ?_) (hno c)
      simp only [spec_l10Follow.l3]
      rw [if_neg (by rw [hup]; omega), if_neg (by rw [c]; simp [up]), w64s hw (by omega)]
    · have hp : 0 < (sk.foldl (stepS l fin D L w) []).length := List.length_pos_iff.2 c
      refine Evl.step 0 (fun k _ => ?_) (hyes c)
      simp only [spec_l10Follow.l3]
      rw [if_neg (by rw [hup]; omega), if_pos (by rw [up_length]; omega), if_pos u0.out, if_pos (by have := R.lo; omega), eo.out, w64s hw (by omega)]
  | succ d ih =>
    intro j hd hj
    have hjl : j < sk.length := by omega
    have e : (sk.take (j + 1)).foldl (stepS l fin D L w) [] = stepS l fin D L w ((sk.take j).foldl (stepS l fin D L w) []) (sk.getD j 0) := by
      rw [List.take_succ_eq_append_getElem hjl, List.foldl_append, List.foldl_cons, List.foldl_nil]
      congr 1
      simp [List.getD_eq_getElem?_getD, hjl]
    have h := ih (j + 1) (by omega) (by omega)
    rw [e] at h
    have hl := foldS_len (l := l) (fin := fin) (D := D) (L := L) (w := w) (sk.take j) []
    rw [List.length_take] at hl
    simp only [List.length_nil] at hl
    refine Evl.step 0 (fun k _ => ?_) (fol4 V R hE hw hjl (by omega) h)
    simp only [spec_l10Follow.l3]
    rw [if_pos (by rw [hup]; omega)]
/-- The wires, one by one, until one is found. -/
theorem fol2 (V : Valid l) {D L : Nat} {out gl : List Int} {sk : List Nat} (R : Rnd l fin cn tab D L out gl sk)
    (found : ∀ w, w < l.length → D.testBit w = false → sk.foldl (stepS l fin D L w) [] ≠ [] → (∀ v, v < w → D.testBit v = false → sk.foldl (stepS l fin D L v) [] = []) →
      Evl (fun k => spec_l10Follow.l1 k first l.length tab least (out ++ [(w : Int)]) (up (sk.foldl (stepS l fin D L w) [])) (rs l fin (D ||| 2 ^ w) w (sk.foldl (stepS l fin D L w) [])) ((D ||| 2 ^ w : Nat) : Int) l) r)
    (hex : ∃ w, w < l.length ∧ D.testBit w = false ∧ sk.foldl (stepS l fin D L w) [] ≠ []) :
    ∀ (d w : Nat), l.length - w = d → w ≤ l.length → (∀ v, v < w → D.testBit v = false → sk.foldl (stepS l fin D L v) [] = []) → Evl (fun k => spec_l10Follow.l2 k first l.length tab least out (up sk) gl D false w l) r := by
  have hn := V.le
  have h9 := pow9 hn
  have hpos := R.pos
  intro d
  induction d with
  | zero =>
    intro w hd hw hmin
    obtain ⟨v, h1, h2, h3⟩ := hex
    exact absurd (hmin v (by omega) h2) h3
  | succ d ih =>
    intro w hd hw hmin
    have hwl : w < l.length := by omega
    have u0 : Aside0 ((0 : Int) ≤ IntKind.u64.wrap (w : Int)) := ⟨by rw [u64n (by omega)]; exact Int.natCast_nonneg w⟩
    have et : Aside0 (Go.bits .and .i64 (shr .i64 (D : Int) (IntKind.u64.wrap (w : Int))) 1 = 1 ↔ D.testBit w = true) := ⟨by
      rw [u64n (by omega), shr9 _ (by omega)]
      exact tst_nat D w (by have := R.hD; omega)⟩
    have eto : Aside0 (wrap64 (wrap64 (wrap64 (Go.bits .or .i64 (D : Int) (shl .i64 1 (IntKind.u64.wrap (w : Int))) * 9) + w) * 9) = toW (D ||| 2 ^ w) w) := ⟨by
      rw [u64n (by omega), shl9 (by omega), show Go.bits .or .i64 (D : Int) (wrap64 (2 ^ w)) = setb D w from rfl, setb_nat D w (by have := R.hD; omega) (by omega)]
      exact toW_eq (by have := or_lt R.hD hwl; omega) (by omega)⟩
    have hne0 : ¬ (out.length : Int) = 0 := by omega
    have nxt : (D.testBit w = false → sk.foldl (stepS l fin D L w) [] = []) → Evl (fun k => spec_l10Follow.l2 k first l.length tab least out (up sk) gl D false ((w + 1 : Nat) : Int) l) r := by
      intro h
      refine ih (w + 1) (by omega) (by omega) fun v hv hb => ?_
      by_cases e : v = w
      · subst e; exact h hb
      · exact hmin v (by omega) hb
    by_cases hb : D.testBit w = true
    · have h := nxt (fun h => by rw [hb] at h; cases h)
      refine Evl.step 0 (fun k _ => ?_) (Evl.step (g := fun k => spec_l10Follow.j4 k first l.length tab least out (up sk) gl D false w true l) 0 (fun k _ => ?_) (Evl.step (g := fun k => spec_l10Follow.j5 k first l.length tab least out (up sk) gl D false w true l) 0 (fun k _ => ?_) h))
      · simp only [spec_l10Follow.l2]
        rw [if_pos (by omega)]
        rfl
      · simp only [spec_l10Follow.j4]
        rw [if_pos trivial, if_pos u0.out, if_pos (et.out.2 hb)]
      · simp only [spec_l10Follow.j5]
        rw [if_pos trivial, w64s hwl (by omega)]
    · have hb' : D.testBit w = false := by simpa using hb
      have h3 := fol3 (first := first) (least := least) (r := r) (fd := false) V R (E := D ||| 2 ^ w) rfl hwl (fun hne => by
        have hf := found w hwl hb' hne hmin
        by_cases c : w + 1 < l.length
        · refine Evl.step 0 (fun k _ => ?_) (Evl.step (g := fun k => spec_l10Follow.j4 k first l.length tab least (out ++ [(w : Int)]) (up (sk.foldl (stepS l fin D L w) [])) (rs l fin (D ||| 2 ^ w) w (sk.foldl (stepS l fin D L w) [])) ((D ||| 2 ^ w : Nat) : Int) true ((w + 1 : Nat) : Int) false l) 0 (fun k _ => ?_) hf)
          · simp only [spec_l10Follow.l2]
            rw [if_pos (by omega)]
            rfl
          · simp only [spec_l10Follow.j4]
            rw [if_neg (by decide)]
        · refine Evl.step 0 (fun k _ => ?_) (Evl.step (g := fun k => spec_l10Follow.j4 k first l.length tab least (out ++ [(w : Int)]) (up (sk.foldl (stepS l fin D L w) [])) (rs l fin (D ||| 2 ^ w) w (sk.foldl (stepS l fin D L w) [])) ((D ||| 2 ^ w : Nat) : Int) true ((w + 1 : Nat) : Int) false l) 0 (fun k _ => ?_) hf)
          · simp only [spec_l10Follow.l2]
            rw [if_neg (by omega)]
          · simp only [spec_l10Follow.j4]
            rw [if_neg (by decide)]) (fun he => nxt (fun _ => he)) sk.length 0 (by omega) (by omega)
      rw [List.take_zero] at h3
      refine Evl.step 0 (fun k _ => ?_) (Evl.step (g := fun k => spec_l10Follow.j4 k first l.length tab least out (up sk) gl D false w true l) 0 (fun k _ => ?_) (Evl.step (g := fun k => spec_l10Follow.j5 k first l.length tab least out (up sk) gl D false w false l) 0 (fun k _ => ?_) h3))
      · simp only [spec_l10Follow.l2]
        rw [if_pos (by omega)]
        rfl
      · simp only [spec_l10Follow.j4]
        rw [if_pos trivial, if_pos u0.out, if_neg (fun h => hb (et.out.1 h)), if_neg hne0]
      · simp only [spec_l10Follow.j5]
        rw [if_neg (by decide), if_pos u0.out, eto.out]
        rfl
end
end Go.Proofs.Ytaapbnhggfmlpaa.B
end
section
set_option linter.unusedVariables false
namespace Go.Proofs.Ytaapbnhggfmlpaa.B
open Go.RowKit Go.Proofs.Ytaapbnhggfmlpaa.P Go.Proofs.YtaapbnhggfmlpaaW.PrintWords Go.Proofs.YtaapbnhggfmlpaaW.PrintLast Go.Proofs.YtaapbnhggfmlpaaW.PrintMore Go.Proofs.Ytaapbnhggfmlpaa.A Go.Proofs.Ytaapbnhggfmlpaa.M
attribute [local irreducible] lf
theorem few : ∀ (N : Nat) (xs : List Nat), xs.Nodup → (∀ x ∈ xs, x < N) → xs.length ≤ N := by
  intro N
  induction N with
  | zero =>
    intro xs _ h
    cases xs with
    | nil => simp
    | cons x xs => exact absurd (h x (List.mem_cons_self ..)) (by omega)
  | succ N ih =>
    intro xs hd h
    have h1 : (xs.erase N).length ≤ N := ih (xs.erase N) (hd.erase N) fun x hx => by
      have h2 := h x (List.mem_of_mem_erase hx)
      have h3 : x ≠ N := fun e => by
        subst e
        exact (hd.not_mem_erase) hx
      omega
    have := List.length_erase (a := N) (l := xs)
    split at this <;> omega
section
variable {l : List (List Int)} {fin : Int} {cn : Nat} {tab : List Int} {r : List Int × Int} {first least : Int}
theorem addS_nd {E w s : Nat} {nx : List Nat} {goal : Int} (h : nx.Nodup) : (addS l fin E w nx s goal).Nodup := by
  unfold addS
  by_cases c : goal < 0 ∨ lf l fin ⟨E, w, s⟩ ≠ goal ∨ s ∈ nx
  · rw [if_pos c]; exact h
  · rw [if_neg c, List.nodup_append]
    refine ⟨h, by simp, fun x hx y hy => ?_⟩
    obtain rfl := List.mem_singleton.1 hy
    rintro rfl
    exact c (.inr (.inr hx))
theorem foldS_nd {D L w : Nat} : ∀ (sk nx : List Nat), nx.Nodup → (sk.foldl (stepS l fin D L w) nx).Nodup
  | [], nx, h => h
  | s :: sk, nx, h => by
    rw [List.foldl_cons]
    refine foldS_nd sk _ ?_
    unfold stepS
    split
    · exact addS_nd (addS_nd h)
    · exact addS_nd h
theorem fol1 (V : Valid l) : ∀ (d kk D L : Nat) (out gl : List Int) (sk : List Nat), d ≤ kk → ucnt l.length D = d → out.length + d = l.length → Rnd l fin cn tab D L out gl sk → sk ≠ [] → (∀ s ∈ sk, 0 ≤ lf l fin ⟨D, L, s⟩) →
    Evl (fun k => spec_l10Follow.l1 k first l.length tab least out (up sk) gl D l) (ordR l fin kk (tks D L sk) out, least) := by
  have hn := V.le
  intro d
  induction d with
  | zero =>
    intro kk D L out gl sk hk hd hlen R hne h0
    refine Evl.of 1 (fun k hk => ?_)
    obtain ⟨k, rfl⟩ : ∃ m, k = m + 1 := ⟨k - 1, by omega⟩
    simp only [spec_l10Follow.l1]
    rw [if_neg (by omega), show ordR l fin kk (tks D L sk) out = out from by cases kk <;> simp [ordR, show ¬ out.length < l.length by omega]]
  | succ d ih =>
    intro kk D L out gl sk hk hd hlen R hne h0
    obtain ⟨kk, rfl⟩ : ∃ m, kk = m + 1 := ⟨kk - 1, by omega⟩
    have hsk8 : ∀ s ∈ sk, s ≤ 8 := fun s hs => Nat.le_trans (R.hsk s hs) R.cn8
    have hDne : D ≠ 2 ^ l.length - 1 := fun e => by rw [(ucnt_zero _ _ R.hD).2 e] at hd; omega
    have hex : ∃ w, w < l.length ∧ D.testBit w = false ∧ sk.foldl (stepS l fin D L w) [] ≠ [] := by
      obtain ⟨s, hs⟩ := List.exists_mem_of_ne_nil _ hne
      have hs9 : s ≤ 9 := Nat.le_trans (hsk8 s hs) (by decide)
      obtain ⟨x, hx, h1, h2⟩ := good_ex V fin R.hD R.hL hs9 (h0 s hs) hDne
      have hok := itms_ok hn (t := ⟨D, L, s⟩) ⟨D, L, s, rfl, R.hD, R.hL, hs9⟩ x hx
      have hbw : D.testBit x.w = false := by simpa using hok.2.2.2.1
      refine ⟨x.w, hok.2.2.1, hbw, fun e => ?_⟩
      obtain ⟨s', hs', _⟩ := (good_iff V fin R.hD R.hL hsk8 hok.2.2.1 hbw x.t).1 ⟨x, ⟨⟨D, L, s⟩, List.mem_map.2 ⟨s, hs, rfl⟩, hx, (gw_iff (fin := fin) V R.hD R.hL hs9 hx _).2 ⟨h1, h2⟩⟩, rfl, rfl⟩
      rw [e] at hs'
      cases hs'
    have h := fol2 (first := first) (least := least) (r := (ordR l fin (kk + 1) (tks D L sk) out, least)) V R (fun w hw hb hne' hmin => by
      rw [next_is V fin R.hD R.hL hsk8 hw hb hne' hmin kk out (by omega)]
      have hmem : ∀ s' ∈ sk.foldl (stepS l fin D L w) [], s' ≤ cn ∧ 0 ≤ lf l fin ⟨(D ||| 2 ^ w : Nat), w, s'⟩ := by
        intro s' hs'
        rcases (mem_foldS s' sk []).1 hs' with h | ⟨s, hs, h⟩
        · cases h
        · have := R.hsk s hs
          rcases h with ⟨rfl, a, b⟩ | ⟨rfl, a, b⟩
          · exact ⟨this, by rw [b]; exact a⟩
          · exact ⟨by omega, by rw [b]; exact a⟩
      have hc := ucnt_or l.length D w hb
      rw [if_pos hw] at hc
      have hcn := R.cn8
      have hlo := R.lo
      refine ih kk (D ||| 2 ^ w) w (out ++ [(w : Int)]) _ _ (by omega) (by omega) (by simp; omega) ⟨R.full, R.cn8, or_lt R.hD hw, hw, by simp, by simp; omega, by simp [List.getD_eq_getElem?_getD], rs_len .., fun j hj => rs_getD hj, fun s' hs' => (hmem s' hs').1, ?_⟩ hne' (fun s' hs' => (hmem s' hs').2)
      have := few 10 _ (foldS_nd (l := l) (fin := fin) (D := D) (L := L) (w := w) sk [] List.nodup_nil) (fun x hx => by have := (hmem x hx).1; omega)
      omega) hex l.length 0 (by omega) (by omega) (fun v hv _ => absurd hv (Nat.not_lt_zero v))
    refine Evl.step 0 (fun k _ => ?_) h
    simp only [spec_l10Follow.l1]
    rw [if_pos (by omega)]
    rfl
/-- A wire that is looked at as the first one. -/
theorem folLook (hn : l.length ≤ 9) (h9 : 2 ^ l.length ≤ 512) (hT : Full l fin cn tab) (hcn : cn ≤ 8) (hl0 : 0 ≤ least) (w : Nat) (hw : w < l.length) (x : Int) (hx : Aside0 (lf l fin ⟨(2 ^ w : Nat), w, cn⟩ = x))
    (hy : x = least → Evl (fun k => spec_l10Follow.l2 k first l.length tab least [(w : Int)] [(cn : Int)] [least] ((2 ^ w : Nat) : Int) true ((w + 1 : Nat) : Int) l) r)
    (hno : x ≠ least → Evl (fun k => spec_l10Follow.l2 k first l.length tab least [] [(cn : Int)] [least] 0 false ((w + 1 : Nat) : Int) l) r) :
    Evl (fun k => spec_l10Follow.l3 k first l.length tab least [] [(cn : Int)] [least] 0 false w [] [] (toW (2 ^ w) w) 0 l) r := by
  have hp : 2 ^ w < 2 ^ l.length := Nat.pow_lt_pow_right (by decide) hw
  have hp9 : 2 ^ w < 512 := Nat.lt_of_lt_of_le hp h9
  have eo : Aside0 (Go.bits .or .i64 (0 : Int) (shl .i64 1 (IntKind.u64.wrap (w : Int))) = ((2 ^ w : Nat) : Int)) := ⟨by
    rw [u64n (by omega), shl9 (by omega)]
    have := setb_nat 0 w (by decide) (by omega)
    rw [Nat.zero_or] at this
    exact this⟩
  have u0 : Aside0 ((0 : Int) ≤ IntKind.u64.wrap (w : Int)) := ⟨by rw [u64n (by omega)]; exact Int.natCast_nonneg w⟩
  have hm2 : ¬ ((2 : Nat) : Int) ≤ (if (1 : Int) < (cn : Int) then 1 else (cn : Int)) := by split <;> omega
  have hrd0 : rd [(cn : Int)] 0 = (cn : Int) := rfl
  have hgl0 : rd [least] 0 = least := rfl
  -- behind the numbers of shields
  have end_ : Evl (fun k => spec_l10Follow.l3 k first l.length tab least [] [(cn : Int)] [least] 0 false w (up (addS l fin (2 ^ w) w [] cn least)) (rs l fin (2 ^ w) w (addS l fin (2 ^ w) w [] cn least)) (toW (2 ^ w) w) 1 l) r := by
    by_cases c : x = least
    · have ea : addS l fin (2 ^ w) w [] cn least = [cn] := by
        unfold addS
        rw [if_neg]
        · rfl
        · rintro (h | h | h)
          · exact absurd h (Int.not_lt.2 hl0)
          · exact h (hx.out.trans c)
          · cases h
      have er : rs l fin (2 ^ w) w [cn] = [least] := by
        unfold rs
        rw [List.map_cons, List.map_nil, hx.out, c]
      rw [ea, er]
      refine Evl.step 0 (fun k _ => ?_) (hy c)
      simp only [spec_l10Follow.l3]
      rw [if_neg (by simp), if_pos (by simp [up]), if_pos u0.out, if_pos (by simp), eo.out, w64s hw (by omega)]
      rfl
    · have ea : addS l fin (2 ^ w) w [] cn least = [] := by
        unfold addS
        rw [if_pos (.inr (.inl (fun h => c (hx.out.symm.trans h))))]
      rw [ea]
      refine Evl.step 0 (fun k _ => ?_) (hno c)
      simp only [spec_l10Follow.l3]
      rw [if_neg (by simp), if_neg (by simp [up]), w64s hw (by omega)]
  have exit_ : ∀ (sh : Nat), ¬ (sh : Int) ≤ (if (1 : Int) < (cn : Int) then 1 else (cn : Int)) → Evl (fun k => spec_l10Follow.l4 k first l.length tab least [] [(cn : Int)] [least] 0 false w (up (addS l fin (2 ^ w) w [] cn least)) (rs l fin (2 ^ w) w (addS l fin (2 ^ w) w [] cn least)) (toW (2 ^ w) w) 0 sh l) r := by
    intro sh hsh
    refine Evl.step 0 (fun k _ => ?_) end_
    simp only [spec_l10Follow.l4]
    rw [if_pos (by decide), if_pos (by simp), hrd0, min1]
    simp only [Option.bind_some]
    rw [if_neg hsh, show wrap64 ((0 : Int) + 1) = 1 by rw [w64 (by omega)]; rfl]
  have hmid : Evl (fun k => spec_l10Follow.l4 k first l.length tab least [] [(cn : Int)] [least] 0 false w (up (addS l fin (2 ^ w) w [] cn least)) (rs l fin (2 ^ w) w (addS l fin (2 ^ w) w [] cn least)) (toW (2 ^ w) w) 0 ((0 + 1 : Nat) : Int) l) r := by
    by_cases c : ((0 + 1 : Nat) : Int) ≤ (if (1 : Int) < (cn : Int) then 1 else (cn : Int))
    · refine Evl.step 0 (fun k _ => ?_) (exit_ 2 hm2)
      simp only [spec_l10Follow.l4]
      rw [if_pos (by decide), if_pos (by simp), hrd0, min1]
      simp only [Option.bind_some]
      rw [if_pos c, if_pos (by simp), if_pos (by simp), if_pos (by decide), show wrap64 (((0 + 1 : Nat) : Int) + 1) = 2 by rw [w64 (by omega)]; rfl]
      rfl
    · exact exit_ (0 + 1) c
  have h8 := fol8 (first := first) (least := least) hn hT hcn (E := 2 ^ w) (w := w) (D := 0) (out := []) (gl := [least]) (sk := [cn]) (nx := []) (j := 0) (sh := 0) (s := cn) (goal := least) (fd := false) hp hp9 hw (Nat.testBit_two_pow_self ..) (by simp) (by simp) rfl (Nat.le_refl _) (Nat.zero_le _) (by decide) (by simp) hmid
  have hm0 : (0 : Int) ≤ (if (1 : Int) < (cn : Int) then 1 else (cn : Int)) := by split <;> omega
  refine Evl.step 0 (fun k _ => ?_) (Evl.step (g := fun k => spec_l10Follow.l4 k first l.length tab least [] [(cn : Int)] [least] 0 false w [] [] (toW (2 ^ w) w) 0 0 l) 0 (fun k _ => ?_) h8)
  · simp only [spec_l10Follow.l3]
    rw [if_pos (by simp)]
  · simp only [spec_l10Follow.l4]
    rw [if_pos (by decide), if_pos (by simp), hrd0, min1]
    simp only [Option.bind_some]
    rw [if_pos hm0, if_pos (by simp), if_pos (by simp), if_neg (by decide), hgl0]
    rfl
/-- The first wire. -/
theorem folF (V : Valid l) (hT : Full l fin cn tab) (hcn : cn ≤ 8) (sel : Nat → Prop) (hsel : ∀ w, w < l.length → (sel w ↔ (first < 0 ∨ (w : Int) = first))) (w0 : Nat) (hw0 : w0 < l.length) (hs0 : sel w0) (hl0 : 0 ≤ least) (he : Aside0 (lf l fin ⟨(2 ^ w0 : Nat), w0, cn⟩ = least)) (hmin : Aside0 (∀ v, v < w0 → sel v → lf l fin ⟨(2 ^ v : Nat), v, cn⟩ ≠ least))
    (H : Evl (fun k => spec_l10Follow.l1 k first l.length tab least [(w0 : Int)] [(cn : Int)] [least] ((2 ^ w0 : Nat) : Int) l) r) :
    ∀ (d w : Nat), w0 - w = d → w ≤ w0 → Evl (fun k => spec_l10Follow.l2 k first l.length tab least [] [(cn : Int)] [least] 0 false w l) r := by
  have hn := V.le
  have h9 := pow9 hn
  intro d
  induction d with
  | zero =>
    intro w hd hw
    obtain rfl : w = w0 := by omega
    have u0 : Aside0 ((0 : Int) ≤ IntKind.u64.wrap (w : Int)) := ⟨by rw [u64n (by omega)]; exact Int.natCast_nonneg w⟩
    have et : Aside0 (¬ Go.bits .and .i64 (shr .i64 (0 : Int) (IntKind.u64.wrap (w : Int))) 1 = 1) := ⟨by
      rw [u64n (by omega), shr9 _ (by omega)]
      intro h
      have := (tst_nat 0 w (by decide)).1 h
      simp at this⟩
    have eto : Aside0 (wrap64 (wrap64 (wrap64 (Go.bits .or .i64 (0 : Int) (shl .i64 1 (IntKind.u64.wrap (w : Int))) * 9) + w) * 9) = toW (2 ^ w) w) := ⟨by
      have e0 := setb_nat 0 w (by decide) (by omega)
      rw [Nat.zero_or] at e0
      rw [u64n (by omega), shl9 (by omega), show Go.bits .or .i64 (0 : Int) (wrap64 (2 ^ w)) = setb 0 w from rfl, show setb 0 w = ((2 ^ w : Nat) : Int) from e0]
      exact toW_eq (by have := Nat.pow_lt_pow_right (a := 2) (by decide) hw0; omega) (by omega)⟩
    have h3 := folLook (first := first) (r := r) hn h9 hT hcn hl0 w hw0 _ ⟨rfl⟩ (fun _ => by
      by_cases c : w + 1 < l.length
      · refine Evl.step 0 (fun k _ => ?_) (Evl.step (g := fun k => spec_l10Follow.j4 k first l.length tab least [(w : Int)] [(cn : Int)] [least] ((2 ^ w : Nat) : Int) true ((w + 1 : Nat) : Int) false l) 0 (fun k _ => ?_) H)
        · simp only [spec_l10Follow.l2]
          rw [if_pos (by omega)]
          rfl
        · simp only [spec_l10Follow.j4]
          rw [if_neg (by decide)]
      · refine Evl.step 0 (fun k _ => ?_) (Evl.step (g := fun k => spec_l10Follow.j4 k first l.length tab least [(w : Int)] [(cn : Int)] [least] ((2 ^ w : Nat) : Int) true ((w + 1 : Nat) : Int) false l) 0 (fun k _ => ?_) H)
        · simp only [spec_l10Follow.l2]
          rw [if_neg (by omega)]
        · simp only [spec_l10Follow.j4]
          rw [if_neg (by decide)]) (fun h => absurd he.out h)
    have hb : (first ≥ 0 → ((w : Int) != first) = false) := by
      intro hf
      have := (hsel w hw0).1 hs0
      rw [bne_eq_false_iff_eq]
      omega
    refine Evl.step 0 (fun k _ => ?_) (Evl.step (g := fun k => spec_l10Follow.j4 k first l.length tab least [] [(cn : Int)] [least] 0 false w true l) 0 (fun k _ => ?_) (Evl.step (g := fun k => spec_l10Follow.j5 k first l.length tab least [] [(cn : Int)] [least] 0 false w false l) 0 (fun k _ => ?_) h3))
    · simp only [spec_l10Follow.l2]
      rw [if_pos (by omega)]
      rfl
    · simp only [spec_l10Follow.j4]
      rw [if_pos trivial, if_pos u0.out, if_neg et.out, if_pos (by simp)]
      by_cases hf : first ≥ 0
      · rw [if_pos hf, hb hf]
      · rw [if_neg hf]
    · simp only [spec_l10Follow.j5]
      rw [if_neg (by decide), if_pos u0.out, eto.out]
  | succ d ih =>
    intro w hd hw
    have hwl : w < l.length := by omega
    have u0 : Aside0 ((0 : Int) ≤ IntKind.u64.wrap (w : Int)) := ⟨by rw [u64n (by omega)]; exact Int.natCast_nonneg w⟩
    have et : Aside0 (¬ Go.bits .and .i64 (shr .i64 (0 : Int) (IntKind.u64.wrap (w : Int))) 1 = 1) := ⟨by
      rw [u64n (by omega), shr9 _ (by omega)]
      intro h
      have := (tst_nat 0 w (by decide)).1 h
      simp at this⟩
    have eto : Aside0 (wrap64 (wrap64 (wrap64 (Go.bits .or .i64 (0 : Int) (shl .i64 1 (IntKind.u64.wrap (w : Int))) * 9) + w) * 9) = toW (2 ^ w) w) := ⟨by
      have e0 := setb_nat 0 w (by decide) (by omega)
      rw [Nat.zero_or] at e0
      rw [u64n (by omega), shl9 (by omega), show Go.bits .or .i64 (0 : Int) (wrap64 (2 ^ w)) = setb 0 w from rfl, show setb 0 w = ((2 ^ w : Nat) : Int) from e0]
      exact toW_eq (by have := Nat.pow_lt_pow_right (a := 2) (by decide) hwl; omega) (by omega)⟩
    have nxt := ih (w + 1) (by omega) (by omega)
    by_cases hsw : sel w
    · have h3 := folLook (first := first) (r := r) hn h9 hT hcn hl0 w hwl _ ⟨rfl⟩ (fun h => absurd h (hmin.out w (by omega) hsw)) (fun _ => nxt)
      have hb : (first ≥ 0 → ((w : Int) != first) = false) := by
        intro hf
        have := (hsel w hwl).1 hsw
        rw [bne_eq_false_iff_eq]
        omega
      refine Evl.step 0 (fun k _ => ?_) (Evl.step (g := fun k => spec_l10Follow.j4 k first l.length tab least [] [(cn : Int)] [least] 0 false w true l) 0 (fun k _ => ?_) (Evl.step (g := fun k => spec_l10Follow.j5 k first l.length tab least [] [(cn : Int)] [least] 0 false w false l) 0 (fun k _ => ?_) h3))
      · simp only [spec_l10Follow.l2]
        rw [if_pos (by omega)]
        rfl
      · simp only [spec_l10Follow.j4]
        rw [if_pos trivial, if_pos u0.out, if_neg et.out, if_pos (by simp)]
        by_cases hf : first ≥ 0
        · rw [if_pos hf, hb hf]
        · rw [if_neg hf]
      · simp only [spec_l10Follow.j5]
        rw [if_neg (by decide), if_pos u0.out, eto.out]
    · have hns := fun h => hsw ((hsel w hwl).2 h)
      have hf : first ≥ 0 := by
        have h2 : ¬ first < 0 := fun h => hns (.inl h)
        omega
      have hb : ((w : Int) != first) = true := by
        rw [bne_iff_ne]
        exact fun e => hns (.inr e)
      refine Evl.step 0 (fun k _ => ?_) (Evl.step (g := fun k => spec_l10Follow.j4 k first l.length tab least [] [(cn : Int)] [least] 0 false w true l) 0 (fun k _ => ?_) (Evl.step (g := fun k => spec_l10Follow.j5 k first l.length tab least [] [(cn : Int)] [least] 0 false w true l) 0 (fun k _ => ?_) nxt))
      · simp only [spec_l10Follow.l2]
        rw [if_pos (by omega)]
        rfl
      · simp only [spec_l10Follow.j4]
        rw [if_pos trivial, if_pos u0.out, if_neg et.out, if_pos (by simp), if_pos hf, hb]
      · simp only [spec_l10Follow.j5]
        rw [if_pos trivial, w64s hwl (by omega)]
/-- The least coupling of the first i beginnings that are looked at. -/
def mF (l : List (List Int)) (fin : Int) (cn : Nat) (first : Int) : Nat → Int
  | 0 => -1
  | i + 1 => if 0 ≤ lf l fin ⟨(2 ^ i : Nat), i, cn⟩ ∧ (first < 0 ∨ (i : Int) = first) ∧ (mF l fin cn first i < 0 ∨ lf l fin ⟨(2 ^ i : Nat), i, cn⟩ < mF l fin cn first i) then lf l fin ⟨(2 ^ i : Nat), i, cn⟩ else mF l fin cn first i
theorem mF_min (sel : Nat → Prop) : ∀ (i : Nat), (∀ w, w < i → (sel w ↔ (first < 0 ∨ (w : Int) = first))) →
    (mF l fin cn first i = -1 ∧ ∀ w, w < i → sel w → lf l fin ⟨(2 ^ w : Nat), w, cn⟩ < 0) ∨ (0 ≤ mF l fin cn first i ∧ (∃ w, w < i ∧ sel w ∧ lf l fin ⟨(2 ^ w : Nat), w, cn⟩ = mF l fin cn first i) ∧ ∀ w, w < i → sel w → lf l fin ⟨(2 ^ w : Nat), w, cn⟩ < 0 ∨ mF l fin cn first i ≤ lf l fin ⟨(2 ^ w : Nat), w, cn⟩) := by
  intro i
  induction i with
  | zero => exact fun _ => .inl ⟨rfl, fun w h => absurd h (Nat.not_lt_zero w)⟩
  | succ i ih =>
    intro hs
    have h := ih fun w hw => hs w (by omega)
    have hsi := hs i (by omega)
    unfold mF
    generalize hx : lf l fin ⟨(2 ^ i : Nat), i, cn⟩ = x
    generalize mF l fin cn first i = m at h ⊢
    have split_ : ∀ {w}, w < i + 1 → w < i ∨ w = i := fun h => by omega
    by_cases c : 0 ≤ x ∧ (first < 0 ∨ (i : Int) = first) ∧ (m < 0 ∨ x < m)
    · rw [if_pos c]
      refine .inr ⟨c.1, ⟨i, by omega, hsi.2 c.2.1, hx⟩, fun w hw hsw => ?_⟩
      rcases split_ hw with hw | rfl
      · rcases h with ⟨_, h⟩ | ⟨_, _, h⟩
        · exact .inl (h w hw hsw)
        · rcases h w hw hsw with h | h
          · exact .inl h
          · rcases c.2.2 with c | c
            · omega
            · exact .inr (by omega)
      · exact .inr (Int.le_of_eq hx.symm)
    · rw [if_neg c]
      rcases h with ⟨h1, h2⟩ | ⟨h1, ⟨w0, h2, h3, h4⟩, h5⟩
      · refine .inl ⟨h1, fun w hw hsw => ?_⟩
        rcases split_ hw with hw | rfl
        · exact h2 w hw hsw
        · rw [hx]
          have h6 : ¬ 0 ≤ x := fun h => c ⟨h, hsi.1 hsw, .inl (by omega)⟩
          omega
      · refine .inr ⟨h1, ⟨w0, by omega, h3, h4⟩, fun w hw hsw => ?_⟩
        rcases split_ hw with hw | rfl
        · exact h5 w hw hsw
        · rw [hx]
          by_cases h6 : 0 ≤ x
          · have h7 : ¬ x < m := fun h => c ⟨h6, hsi.1 hsw, .inr h⟩
            exact .inr (by omega)
          · exact .inl (by omega)
/-- The beginnings, one by one. -/
theorem fol0 (hn : l.length ≤ 9) (h9 : 2 ^ l.length ≤ 512) (hT : Full l fin cn tab) (hcn : cn ≤ 8)
    (H : Evl (fun k => spec_l10Follow.l1 k first l.length tab (mF l fin cn first l.length) [] [(cn : Int)] [mF l fin cn first l.length] 0 l) r) :
    ∀ (d i : Nat), l.length - i = d → i ≤ l.length → Evl (fun k => spec_l10Follow.l0 k cn first l.length tab (mF l fin cn first i) i l) r := by
  intro d
  induction d with
  | zero =>
    intro i hd hi
    obtain rfl : i = l.length := by omega
    refine Evl.step 0 (fun k _ => ?_) H
    simp only [spec_l10Follow.l0]
    rw [if_neg (by omega)]
  | succ d ih =>
    intro i hd hi
    have hil : i < l.length := by omega
    have hp : 2 ^ i < 2 ^ l.length := Nat.pow_lt_pow_right (by decide) hil
    have hp9 : 2 ^ i < 512 := Nat.lt_of_lt_of_le hp h9
    have hh := ih (i + 1) (by omega) (by omega)
    have hlen : ((ix (2 ^ i) i cn : Nat) : Int) < (tab.length : Int) := by
      have := ix_lt (n := l.length) hp (show i < 9 by omega) (show cn < 9 by omega)
      have := hT.1
      omega
    have u0 : Aside0 ((0 : Int) ≤ IntKind.u64.wrap (i : Int)) := ⟨by rw [u64n (by omega)]; exact Int.natCast_nonneg i⟩
    have eix : Aside0 (wrap64 (wrap64 (wrap64 (wrap64 (shl .i64 1 (IntKind.u64.wrap (i : Int)) * 9) + i) * 9) + cn) = (ix (2 ^ i) i cn : Int)) := ⟨by
      rw [u64n (by omega), shl9 (by omega), wpow i (by omega)]
      exact ix_int hp9 (by omega) (by omega)⟩
    have htab : Aside0 (rd tab ((ix (2 ^ i) i cn : Nat) : Int) = lf l fin ⟨(2 ^ i : Nat), i, cn⟩) := ⟨by
      rw [rd_nat]
      exact hT.2 (2 ^ i) i cn hp hil (Nat.le_refl _) (Nat.testBit_two_pow_self ..)⟩
    have hi1 : Aside0 (wrap64 ((i : Int) + 1) = ((i + 1 : Nat) : Int)) := ⟨w64s hil (by omega)⟩
    have em : mF l fin cn first (i + 1) = if 0 ≤ lf l fin ⟨(2 ^ i : Nat), i, cn⟩ ∧ (first < 0 ∨ (i : Int) = first) ∧ (mF l fin cn first i < 0 ∨ lf l fin ⟨(2 ^ i : Nat), i, cn⟩ < mF l fin cn first i) then lf l fin ⟨(2 ^ i : Nat), i, cn⟩ else mF l fin cn first i := rfl
    rw [em] at hh
    generalize mF l fin cn first i = m at hh ⊢
    generalize lf l fin ⟨(2 ^ i : Nat), i, cn⟩ = x at hh htab
    have yes_ : (0 ≤ x ∧ (first < 0 ∨ (i : Int) = first) ∧ (m < 0 ∨ x < m)) → Evl (fun k => spec_l10Follow.j1 k cn first l.length tab m i x true l) r := by
      intro c
      rw [if_pos c] at hh
      refine Evl.step 0 (fun k _ => ?_) hh
      simp only [spec_l10Follow.j1]
      rw [if_pos trivial, hi1.out]
    have no_ : ¬ (0 ≤ x ∧ (first < 0 ∨ (i : Int) = first) ∧ (m < 0 ∨ x < m)) → Evl (fun k => spec_l10Follow.j1 k cn first l.length tab m i x false l) r := by
      intro c
      rw [if_neg c] at hh
      refine Evl.step 0 (fun k _ => ?_) hh
      simp only [spec_l10Follow.j1]
      rw [if_neg (by decide), hi1.out]
    have hlt : (i : Int) < (l.length : Int) := by omega
    by_cases c1 : x ≥ 0
    · by_cases c2 : first < 0
      · by_cases c3 : m < 0
        · refine Evl.step 0 (fun k _ => ?_) (yes_ ⟨c1, .inl c2, .inl c3⟩)
          simp only [spec_l10Follow.l0]
          rw [if_pos hlt, if_pos u0.out, eix.out, if_pos (Int.natCast_nonneg _), if_pos hlen, htab.out, if_pos c1, if_pos c2, if_pos c3]
        · by_cases c4 : x < m
          · refine Evl.step 0 (fun k _ => ?_) (yes_ ⟨c1, .inl c2, .inr c4⟩)
            simp only [spec_l10Follow.l0]
            rw [if_pos hlt, if_pos u0.out, eix.out, if_pos (Int.natCast_nonneg _), if_pos hlen, htab.out, if_pos c1, if_pos c2, if_neg c3, decide_eq_true c4]
          · refine Evl.step 0 (fun k _ => ?_) (no_ (fun h => h.2.2.elim c3 c4))
            simp only [spec_l10Follow.l0]
            rw [if_pos hlt, if_pos u0.out, eix.out, if_pos (Int.natCast_nonneg _), if_pos hlen, htab.out, if_pos c1, if_pos c2, if_neg c3, decide_eq_false c4]
      · by_cases c5 : (i : Int) = first
        · by_cases c3 : m < 0
          · refine Evl.step 0 (fun k _ => ?_) (yes_ ⟨c1, .inr c5, .inl c3⟩)
            simp only [spec_l10Follow.l0]
            rw [if_pos hlt, if_pos u0.out, eix.out, if_pos (Int.natCast_nonneg _), if_pos hlen, htab.out, if_pos c1, if_neg c2, if_pos c5, if_pos c3]
          · by_cases c4 : x < m
            · refine Evl.step 0 (fun k _ => ?_) (yes_ ⟨c1, .inr c5, .inr c4⟩)
              simp only [spec_l10Follow.l0]
              rw [if_pos hlt, if_pos u0.out, eix.out, if_pos (Int.natCast_nonneg _), if_pos hlen, htab.out, if_pos c1, if_neg c2, if_pos c5, if_neg c3, decide_eq_true c4]
            · refine Evl.step 0 (fun k _ => ?_) (no_ (fun h => h.2.2.elim c3 c4))
              simp only [spec_l10Follow.l0]
              rw [if_pos hlt, if_pos u0.out, eix.out, if_pos (Int.natCast_nonneg _), if_pos hlen, htab.out, if_pos c1, if_neg c2, if_pos c5, if_neg c3, decide_eq_false c4]
        · refine Evl.step 0 (fun k _ => ?_) (no_ (fun h => h.2.1.elim c2 c5))
          simp only [spec_l10Follow.l0]
          rw [if_pos hlt, if_pos u0.out, eix.out, if_pos (Int.natCast_nonneg _), if_pos hlen, htab.out, if_pos c1, if_neg c2, if_neg c5]
    · refine Evl.step 0 (fun k _ => ?_) (no_ (fun h => c1 h.1))
      simp only [spec_l10Follow.l0]
      rw [if_pos hlt, if_pos u0.out, eix.out, if_pos (Int.natCast_nonneg _), if_pos hlen, htab.out, if_neg c1]
/-- The reference's order, where there is one, is the planner's. -/
theorem follow (V : Valid l) (hcn : cn ≤ 8) (ws : List Nat) (hasc : ws.Pairwise (· < ·)) (hmem : ∀ w, w ∈ ws ↔ w < l.length ∧ (first < 0 ∨ (w : Int) = first)) {os : List Int} {c : Int} (h : orderF l fin cn ws = (os, c, true)) :
    Evl (fun k => spec_l10Follow.f k l cn first fin) (os, c) := by
  have hn := V.le
  have h9 := pow9 hn
  have hbeg : ∀ w, w < l.length → begT cn w = ⟨(2 ^ w : Nat), w, cn⟩ := fun w hw => (begT_tk V (by omega) hw).2
  unfold orderF at h
  rcases begF_min (l := l) (fin := fin) cn ws with ⟨h1, _⟩ | ⟨a, w0, b, h1, h2, h3, h4, h5⟩
  · rw [if_pos (by omega)] at h
    cases h
  rw [h2, if_neg (Int.not_lt.2 h3)] at h
  have hw0m : w0 ∈ ws := by rw [h1]; simp
  obtain ⟨hw0, hs0⟩ := (hmem w0).1 hw0m
  rw [hbeg w0 hw0] at h h3 h4 h5
  simp only [Prod.mk.injEq, and_true] at h
  obtain ⟨ho, hc⟩ := h
  -- the least is the same
  have hmin : ∀ v, v < l.length → (first < 0 ∨ (v : Int) = first) → lf l fin ⟨(2 ^ v : Nat), v, cn⟩ < 0 ∨ lf l fin ⟨(2 ^ w0 : Nat), w0, cn⟩ ≤ lf l fin ⟨(2 ^ v : Nat), v, cn⟩ := by
    intro v hv hsv
    have := (hmem v).2 ⟨hv, hsv⟩
    rw [h1] at this
    rcases List.mem_append.1 this with hva | hvb
    · have := h4 v hva
      rw [hbeg v hv] at this
      exact this.imp id Int.le_of_lt
    · rcases List.mem_cons.1 hvb with rfl | hvb
      · exact .inr (Int.le_refl _)
      · have := h5 v hvb
        rwa [hbeg v hv] at this
  have hlt : ∀ v, v < w0 → (first < 0 ∨ (v : Int) = first) → lf l fin ⟨(2 ^ v : Nat), v, cn⟩ ≠ lf l fin ⟨(2 ^ w0 : Nat), w0, cn⟩ := by
    intro v hv hsv e
    have := (hmem v).2 ⟨by omega, hsv⟩
    rw [h1] at this hasc
    rcases List.mem_append.1 this with hva | hvb
    · have h6 := h4 v hva
      rw [hbeg v (by omega)] at h6
      rw [e] at h6
      exact h6.elim (Int.not_lt.2 h3) (Int.lt_irrefl _)
    · rcases List.mem_cons.1 hvb with rfl | hvb
      · exact Nat.lt_irrefl _ hv
      · have := (List.pairwise_cons.1 (List.pairwise_append.1 hasc).2.1).1 v hvb
        omega
  have hm : mF l fin cn first l.length = c := by
    rw [← hc]
    rcases mF_min (l := l) (fin := fin) (cn := cn) (first := first) (fun w => first < 0 ∨ (w : Int) = first) l.length (fun w _ => Iff.rfl) with ⟨_, g⟩ | ⟨g0, ⟨w1, g1, g2, g3⟩, g4⟩
    · exact absurd (g w0 hw0 hs0) (Int.not_lt.2 h3)
    · have a1 := hmin w1 g1 g2
      have a2 := g4 w0 hw0 hs0
      rw [g3] at a1
      have b1 := a1.resolve_left (Int.not_lt.2 g0)
      have b2 := a2.resolve_left (Int.not_lt.2 h3)
      exact Int.le_antisymm b2 b1
  obtain ⟨tab, htab, hT⟩ := l10Left V fin cn (by omega)
  have hc0 : 0 ≤ c := by rw [← hc]; exact h3
  have hR : Rnd l fin cn tab (2 ^ w0) w0 [(w0 : Int)] [c] [cn] := by
    refine ⟨hT, hcn, Nat.pow_lt_pow_right (by decide) hw0, hw0, by simp, by simp, rfl, rfl, fun j hj => ?_, fun s hs => ?_, by simp⟩
    · obtain rfl : j = 0 := by simp at hj; exact hj
      exact hc.symm
    · obtain rfl := List.mem_singleton.1 hs
      exact Nat.le_refl _
  have hone := ucnt_or l.length 0 w0 (by simp)
  rw [if_pos hw0, Nat.zero_or] at hone
  have hemp : ucnt l.length 0 = l.length := by
    have : ∀ n, ucnt n 0 = n := by
      intro n
      induction n with
      | zero => rfl
      | succ n ih => rw [ucnt_succ, ih]; simp
    exact this _
  have hl1 := fol1 (first := first) (least := c) V (ucnt l.length (2 ^ w0)) 10 (2 ^ w0) w0 [(w0 : Int)] [c] [cn] (by omega) rfl (by simp; omega) hR (by simp) (fun s hs => by
    obtain rfl := List.mem_singleton.1 hs
    exact h3)
  rw [show ordR l fin 10 (tks (2 ^ w0) w0 [cn]) [(w0 : Int)] = os from ho] at hl1
  have hl2 := folF (first := first) (least := c) V hT hcn (fun w => first < 0 ∨ (w : Int) = first) (fun w _ => Iff.rfl) w0 hw0 hs0 hc0 ⟨hc⟩ ⟨fun v hv hsv => by rw [← hc]; exact hlt v hv hsv⟩ hl1 w0 0 (by omega) (by omega)
  have hl3 : Evl (fun k => spec_l10Follow.l1 k first l.length tab (mF l fin cn first l.length) [] [(cn : Int)] [mF l fin cn first l.length] 0 l) (os, c) := by
    rw [hm]
    refine Evl.step 0 (fun k _ => ?_) hl2
    simp only [spec_l10Follow.l1]
    rw [if_pos (by simp; omega)]
    rfl
  have hl0 := fol0 hn h9 hT hcn hl3 l.length 0 (by omega) (by omega)
  unfold spec_l10Follow.f
  exact Evl.bind htab hl0
end
end Go.Proofs.Ytaapbnhggfmlpaa.B
end
section
namespace Go.Proofs.Ytaapbnhggfmlpaa.P
open Go.RowKit Go.Proofs.YtaapbnhggfmlpaaW.PrintWords Go.Proofs.YtaapbnhggfmlpaaW.PrintLast Go.Proofs.YtaapbnhggfmlpaaW.PrintMore
attribute [local go_sem] max2_int min2_int max_two min_two max_three min_three max_four min_four   -- for this text's walks alone
set_option linter.unusedVariables false
set_option linter.unusedSimpArgs false
/-- A state of type 135 at block g of W; what its slices lead to came in by w0. -/
def IsS135 (w0 W : World) (g : Nat) (f0 : List Int) (f1 : Int) (f2 : Int) : Prop := ∃ A0 c0, W.heap[g]? = some (.cells #[.slice A0 f0.length c0, .int .i64 f1, .int .u64 f2] 135 (0, 0)) ∧ w0.heap.size ≤ g ∧ Kd.C (Kd.int .u8) w0 A0 f0.length f0
theorem IsS135.grown {w0 W : World} {g : Nat} {f0 : List Int} {f1 : Int} {f2 : Int} {W1 : World} {row : Option Nat} (h : IsS135 w0 W g f0 f1 f2) (hw : W.grownBy W1 row) (hne : some g ≠ row) : IsS135 w0 W1 g f0 f1 f2 := by
 obtain ⟨A0, c0, hb, hg, hr0⟩ := h
 exact ⟨A0, c0, blk_grown hb hw hne, hg, hr0⟩
theorem IsS135.kept {w0 W : World} {g : Nat} {f0 : List Int} {f1 : Int} {f2 : Int} {W1 : World} {S : Nat → Prop} (h : IsS135 w0 W g f0 f1 f2) (hk : Kept W W1 S) (hne : ¬ S g) : IsS135 w0 W1 g f0 f1 f2 := by
 obtain ⟨A0, c0, hb, hg, hr0⟩ := h
 exact ⟨A0, c0, blk_kept hb hk hne, hg, hr0⟩
theorem IsS135.below {w0 W : World} {g : Nat} {f0 : List Int} {f1 : Int} {f2 : Int} {W1 : World} (h : IsS135 w0 W g f0 f1 f2) (hw : Below W.heap.size W W1) : IsS135 w0 W1 g f0 f1 f2 := h.grown (grown_of_below hw none) (by simp)
theorem IsS135.alloc {w0 W : World} {g : Nat} {f0 : List Int} {f1 : Int} {f2 : Int} (h : IsS135 w0 W g f0 f1 f2) (o : Obj) : IsS135 w0 (W.alloc o) g f0 f1 f2 := h.below (below_alloc (Below.refl _ _) o)
theorem IsS135.drewN {w0 W : World} {g : Nat} {f0 : List Int} {f1 : Int} {f2 : Int} (h : IsS135 w0 W g f0 f1 f2) (m : Nat) : IsS135 w0 (W.drewN m) g f0 f1 f2 := h
theorem IsS135.drew {w0 W : World} {g : Nat} {f0 : List Int} {f1 : Int} {f2 : Int} (h : IsS135 w0 W g f0 f1 f2) : IsS135 w0 W.drew g f0 f1 f2 := h
theorem IsS135.at_ {w0 W : World} {g : Nat} {f0 : List Int} {f1 : Int} {f2 : Int} {w' : World} {m : Nat} (hq : W.drewN m = w') (h : IsS135 w0 W g f0 f1 f2) : IsS135 w0 w' g f0 f1 f2 := by subst hq; exact IsS135.drewN h m
theorem IsS135.apart {w0 W : World} {g : Nat} {f0 : List Int} {f1 : Int} {f2 : Int} {α : Type} {d : Kd α} {e : Nat} {base : Nat} {ok : Nat → Prop} {v : Value} {xs : List α} (h : IsS135 w0 W g f0 f1 f2) (ho : d.R e W base ok v xs) (ht : ∀ q, q ∈ e :: d.E → q ≠ 135) : d.R e W base (fun k => ok k ∧ k ≠ g) v xs := by
 obtain ⟨A0, c0, hb, hg, hr0⟩ := h
 exact Kd.R_types ho hb ht
theorem IsS135.own_ne {w0 W : World} {g : Nat} {f0 : List Int} {f1 : Int} {f2 : Int} {α : Type} {d : Kd α} {e : Nat} {base : Nat} {ok : Nat → Prop} {v : Value} {xs : List α} (h : IsS135 w0 W g f0 f1 f2) (ho : d.R e W base ok v xs) (ht : e ≠ 135) : some g ≠ v.ownBlock := by
 obtain ⟨A0, c0, hb, hg, hr0⟩ := h
 exact Kd.R_ne ho hb ht
theorem IsS135.lt {w0 W : World} {g : Nat} {f0 : List Int} {f1 : Int} {f2 : Int} (h : IsS135 w0 W g f0 f1 f2) : g < W.heap.size := by
 obtain ⟨A0, c0, hb, hg, hr0⟩ := h
 exact blk_lt hb
theorem IsS135.ge {w0 W : World} {g : Nat} {f0 : List Int} {f1 : Int} {f2 : Int} (h : IsS135 w0 W g f0 f1 f2) : w0.heap.size ≤ g := by
 obtain ⟨A0, c0, hb, hg, hr0⟩ := h
 exact hg
theorem IsS135.far {w0 W : World} {g : Nat} {f0 : List Int} {f1 : Int} {f2 : Int} {p : Addr} (h : IsS135 w0 W g f0 f1 f2) (hne : g ≠ p.block) (u : Value) : IsS135 w0 (W.setCell p u) g f0 f1 f2 := by
 obtain ⟨A0, c0, hb, hg, hr0⟩ := h
 exact ⟨A0, c0, blk_far hb hne u, hg, hr0⟩
theorem IsS135.new (w0 W : World) (A0 : Option Addr) (c0 : Nat) (f0 : List Int) (f1 : Int) (f2 : Int) (hB : Below w0.heap.size w0 W) (hr0 : Kd.C (Kd.int .u8) w0 A0 f0.length f0) : IsS135 w0 (W.alloc (.cells #[.slice A0 f0.length c0, .int .i64 f1, .int .u64 f2] 135)) W.heap.size f0 f1 f2 := ⟨A0, c0, by simpa using heap_alloc_new W _, hB.size, hr0⟩
end Go.Proofs.Ytaapbnhggfmlpaa.P
end
section
namespace Go.Proofs.Ytaapbnhggfmlpaa.P
open Go.RowKit Go.Proofs.YtaapbnhggfmlpaaW.PrintWords Go.Proofs.YtaapbnhggfmlpaaW.PrintLast Go.Proofs.YtaapbnhggfmlpaaW.PrintMore
attribute [local go_sem] max2_int min2_int max_two min_two max_three min_three max_four min_four   -- for this text's walks alone
set_option linter.unusedVariables false
set_option linter.unusedSimpArgs false
def spec_l00Src_next.j0 : Nat → Int → List Int → Int → Int → Option (Int × Int × Int)
 | 0, _, _, _, _ => none
 | k + 1, x3, x1000, x1001, x1002 => if (wrap64 (x1001 + 1)) ≤ (x1000.length : Int) then (some (x3, wrap64 (x1001 + 1), IntKind.u64.wrap ((IntKind.u64.wrap ((IntKind.u64.wrap (x1002 * 6364136223846793005)) + (IntKind.u64.wrap (x3)))) + 1442695040888963407))) else (some (wrap64 (Go.bits .and .u64 ((IntKind.u64.wrap ((IntKind.u64.wrap ((IntKind.u64.wrap (x1002 * 6364136223846793005)) + (IntKind.u64.wrap (x3)))) + 1442695040888963407)) / 1099511627776) 255), wrap64 (x1001 + 1), IntKind.u64.wrap ((IntKind.u64.wrap ((IntKind.u64.wrap (x1002 * 6364136223846793005)) + (IntKind.u64.wrap (x3)))) + 1442695040888963407)))
def spec_l00Src_next.f (k : Nat) (s0_0 : List Int) (s0_1 : Int) (s0_2 : Int) : Option (Int × Int × Int) := if s0_1 < (s0_0.length : Int) then (if 0 ≤ s0_1 then (spec_l00Src_next.j0 k (wrap64 (rd s0_0 s0_1)) s0_0 s0_1 s0_2) else (none)) else (spec_l00Src_next.j0 k 0 s0_0 s0_1 s0_2)
end Go.Proofs.Ytaapbnhggfmlpaa.P
end
section
namespace Go.Proofs.Ytaapbnhggfmlpaa.P
open Go.RowKit Go.Proofs.YtaapbnhggfmlpaaW.PrintWords Go.Proofs.YtaapbnhggfmlpaaW.PrintLast Go.Proofs.YtaapbnhggfmlpaaW.PrintMore
attribute [local go_sem] max2_int min2_int max_two min_two max_three min_three max_four min_four   -- for this text's walks alone
set_option linter.unusedVariables false
set_option linter.unusedSimpArgs false
def spec_l00Src_pick.f (k : Nat) (s0_0 : List Int) (s0_1 : Int) (s0_2 : Int) (a1 : Int) : Option (Int × Int × Int) := if a1 ≤ 1 then (some (0, s0_1, s0_2)) else ((spec_l00Src_next.f k s0_0 s0_1 s0_2).bind fun bt103 => (if a1 > 200 then ((spec_l00Src_next.f k s0_0 bt103.2.1 bt103.2.2).bind fun bt106 => (if a1 = 0 then (none) else (some (Int.tmod (wrap64 ((wrap64 (bt103.1 * 256)) + bt106.1)) a1, bt106.2.1, bt106.2.2)))) else (if a1 = 0 then (none) else (some (Int.tmod bt103.1 a1, bt103.2.1, bt103.2.2)))))
end Go.Proofs.Ytaapbnhggfmlpaa.P
end
section
namespace Go.Proofs.Ytaapbnhggfmlpaa.P
open Go.RowKit Go.Proofs.YtaapbnhggfmlpaaW.PrintWords Go.Proofs.YtaapbnhggfmlpaaW.PrintLast Go.Proofs.YtaapbnhggfmlpaaW.PrintMore
attribute [local go_sem] max2_int min2_int max_two min_two max_three min_three max_four min_four   -- for this text's walks alone
set_option linter.unusedVariables false
set_option linter.unusedSimpArgs false
def spec_l00Src_among.f (k : Nat) (s0_0 : List Int) (s0_1 : Int) (s0_2 : Int) (l1 : List Int) : Option (Int × Int × Int) := (spec_l00Src_pick.f k s0_0 s0_1 s0_2 (l1.length : Int)).bind fun bt112 => (if 0 ≤ bt112.1 then (if bt112.1 < (l1.length : Int) then (some (rd l1 bt112.1, bt112.2.1, bt112.2.2)) else (none)) else (none))
end Go.Proofs.Ytaapbnhggfmlpaa.P
end
section
namespace Go.Proofs.Ytaapbnhggfmlpaa.P
open Go.RowKit Go.Proofs.YtaapbnhggfmlpaaW.PrintWords Go.Proofs.YtaapbnhggfmlpaaW.PrintLast Go.Proofs.YtaapbnhggfmlpaaW.PrintMore
attribute [local go_sem] max2_int min2_int max_two min_two max_three min_three max_four min_four   -- for this text's walks alone
set_option linter.unusedVariables false
set_option linter.unusedSimpArgs false
mutual
def spec_l10DrawOk.l0 : Nat → Int → Int → List Int → Int → Int → List (List Int) → Option ((List (List Int)) × Int × Int)
 | 0, _, _, _, _, _, _ => none
 | k + 1, x5, x7, x1000, x1001, x1002, x637000 => if x7 < x5 then (if 0 ≤ x5 then (if (x5 : Int).toNat ≤ 35184372088832 then (if x637000.length < 5864062014805 then (spec_l10DrawOk.l0 k x5 (wrap64 (x7 + 1)) x1000 x1001 x1002 (x637000 ++ [(List.replicate (x5 : Int).toNat 0)])) else (none)) else (none)) else (none)) else ((spec_l00Src_among.f k x1000 x1001 x1002 (([3, 10, 1000] : List Int))).bind fun bt646 => (spec_l10DrawOk.l1 k x5 bt646.1 0 x1000 bt646.2.1 bt646.2.2 x637000))
def spec_l10DrawOk.l1 : Nat → Int → Int → Int → List Int → Int → Int → List (List Int) → Option ((List (List Int)) × Int × Int)
 | 0, _, _, _, _, _, _, _ => none
 | k + 1, x5, x8, x9, x1000, x1001, x1002, x637000 => if x9 < x5 then (spec_l10DrawOk.l2 k x5 x8 x9 0 x1000 x1001 x1002 x637000) else (some (x637000, x1001, x1002))
def spec_l10DrawOk.l2 : Nat → Int → Int → Int → Int → List Int → Int → Int → List (List Int) → Option ((List (List Int)) × Int × Int)
 | 0, _, _, _, _, _, _, _, _ => none
 | k + 1, x5, x8, x9, x10, x1000, x1001, x1002, x637000 => if x10 < x9 then ((spec_l00Src_pick.f k x1000 x1001 x1002 (wrap64 (x8 + 1))).bind fun bt649 => (if 0 ≤ x9 then (if x9 < (x637000.length : Int) then (if 0 ≤ x10 then (if x10 < ((rd_Ls2 x637000 x9).length : Int) then ((some (x637000.set (x9 : Int).toNat ((rd_Ls2 x637000 x9).set (x10 : Int).toNat bt649.1) : List (List Int))).bind fun y655 => (if x10 < (x637000.length : Int) then (if x9 < ((rd_Ls2 y655 x10).length : Int) then (spec_l10DrawOk.l2 k x5 x8 x9 (wrap64 (x10 + 1)) x1000 bt649.2.1 bt649.2.2 (y655.set (x10 : Int).toNat ((rd_Ls2 y655 x10).set (x9 : Int).toNat bt649.1))) else (none)) else (none))) else (none)) else (none)) else (none)) else (none))) else (spec_l10DrawOk.l1 k x5 x8 (wrap64 (x9 + 1)) x1000 x1001 x1002 x637000)
end
end Go.Proofs.Ytaapbnhggfmlpaa.P
end
section
namespace Go.Proofs.Ytaapbnhggfmlpaa.P
open Go.RowKit Go.Proofs.YtaapbnhggfmlpaaW.PrintWords Go.Proofs.YtaapbnhggfmlpaaW.PrintLast Go.Proofs.YtaapbnhggfmlpaaW.PrintMore
attribute [local go_sem] max2_int min2_int max_two min_two max_three min_three max_four min_four   -- for this text's walks alone
set_option linter.unusedVariables false
set_option linter.unusedSimpArgs false
end Go.Proofs.Ytaapbnhggfmlpaa.P
end
section
namespace Go.Proofs.Ytaapbnhggfmlpaa.P
open Go.RowKit Go.Proofs.YtaapbnhggfmlpaaW.PrintWords Go.Proofs.YtaapbnhggfmlpaaW.PrintLast Go.Proofs.YtaapbnhggfmlpaaW.PrintMore
attribute [local go_sem] max2_int min2_int max_two min_two max_three min_three max_four min_four   -- for this text's walks alone
set_option linter.unusedVariables false
set_option linter.unusedSimpArgs false
mutual
def spec_R8Order.l0 : Nat → Int → List Int → Int → List Int → Int → Int → Option (List Int)
 | 0, _, _, _, _, _, _ => none
 | k + 1, x1, x6, x7, x676000, x676001, x676002 => if x7 < x1 then (if x6.length < 17592186044416 then (spec_R8Order.l0 k x1 (x6 ++ [x7]) (wrap64 (x7 + 1)) x676000 x676001 x676002) else (none)) else (spec_R8Order.l1 k x6 (wrap64 (x1 - 1)) x676000 x676001 x676002)
def spec_R8Order.l1 : Nat → List Int → Int → List Int → Int → Int → Option (List Int)
 | 0, _, _, _, _, _ => none
 | k + 1, x6, x8, x676000, x676001, x676002 => if x8 > 0 then ((spec_l00Src_pick.f k x676000 x676001 x676002 (wrap64 (x8 + 1))).bind fun bt682 => (if 0 ≤ bt682.1 then (if bt682.1 < (x6.length : Int) then (if 0 ≤ x8 then (if x8 < (x6.length : Int) then (spec_R8Order.l1 k ((x6.set (bt682.1 : Int).toNat (rd x6 x8)).set (x8 : Int).toNat (rd x6 bt682.1)) (wrap64 (x8 - 1)) x676000 bt682.2.1 bt682.2.2) else (none)) else (none)) else (none)) else (none))) else (some x6)
end
end Go.Proofs.Ytaapbnhggfmlpaa.P
end
section
set_option linter.unusedVariables false
namespace Go.Proofs.Ytaapbnhggfmlpaa.B
open Go.RowKit Go.Proofs.Ytaapbnhggfmlpaa.P Go.Proofs.YtaapbnhggfmlpaaW.PrintWords Go.Proofs.YtaapbnhggfmlpaaW.PrintLast Go.Proofs.YtaapbnhggfmlpaaW.PrintMore
/-- Bytes, told as whole numbers. -/
def Bytes (s : List Int) : Prop := s.length ≤ 1048576 ∧ ∀ x ∈ s, 0 ≤ x ∧ x ≤ 255
/-- A square table of weights, under way. -/
structure Sq (n : Nat) (l : List (List Int)) : Prop where
  len : l.length = n
  row : ∀ i, i < n → (l.getD i []).length = n
  bound : ∀ i j, i < n → j < n → 0 ≤ Wt l i j ∧ Wt l i j ≤ 1000
  sym : ∀ i j, i < n → j < n → Wt l i j = Wt l j i
  zero : ∀ i, i < n → Wt l i i = 0
theorem getD_set {α : Type} (l : List α) (i j : Nat) (x d : α) (hi : i < l.length) : (l.set i x).getD j d = if j = i then x else l.getD j d := by
  simp only [List.getD_eq_getElem?_getD, List.getElem?_set]
  by_cases e : i = j
  · subst e
    simp [hi]
  · rw [if_neg e, if_neg (fun h => e h.symm)]
theorem Sq.put {n : Nat} {l : List (List Int)} (h : Sq n l) {i k : Nat} {w : Int} (hi : i < n) (hk : k < i) (hw : 0 ≤ w ∧ w ≤ 1000) :
    Sq n ((l.set i ((l.getD i []).set k w)).set k (((l.set i ((l.getD i []).set k w)).getD k []).set i w)) := by
  have hl := h.len
  have hik : ¬ k = i := by omega
  have e1 : (l.set i ((l.getD i []).set k w)).getD k [] = l.getD k [] := by rw [getD_set _ _ _ _ _ (by omega), if_neg hik]
  rw [e1]
  have hrow : ∀ a, ((l.set i ((l.getD i []).set k w)).set k ((l.getD k []).set i w)).getD a [] = if a = k then (l.getD k []).set i w else if a = i then (l.getD i []).set k w else l.getD a [] := by
    intro a
    rw [getD_set _ _ _ _ _ (by rw [List.length_set]; omega), getD_set _ _ _ _ _ (by omega)]
  have hW : ∀ a b, a < n → b < n → Wt ((l.set i ((l.getD i []).set k w)).set k ((l.getD k []).set i w)) a b = if (a = i ∧ b = k) ∨ (a = k ∧ b = i) then w else Wt l a b := by
    intro a b ha hb
    unfold Wt
    rw [hrow]
    have r1 := h.row k (by omega)
    have r2 := h.row i hi
    by_cases ca : a = k
    · subst ca
      rw [if_pos rfl, getD_set _ _ _ _ _ (by omega)]
      by_cases cb : b = i
      · rw [if_pos cb, if_pos (.inr ⟨rfl, cb⟩)]
      · rw [if_neg cb, if_neg (by omega)]
    · rw [if_neg ca]
      by_cases ci : a = i
      · subst ci
        rw [if_pos rfl, getD_set _ _ _ _ _ (by omega)]
        by_cases cb : b = k
        · rw [if_pos cb, if_pos (.inl ⟨rfl, cb⟩)]
        · rw [if_neg cb, if_neg (by omega)]
      · rw [if_neg ci, if_neg (by omega)]
  refine ⟨by simp [hl], ?_, ?_, ?_, ?_⟩
  · intro a ha
    rw [hrow]
    by_cases ca : a = k
    · rw [if_pos ca, List.length_set]; exact h.row k (by omega)
    · rw [if_neg ca]
      by_cases ci : a = i
      · rw [if_pos ci, List.length_set]; exact h.row i hi
      · rw [if_neg ci]; exact h.row a ha
  · intro a b ha hb
    rw [hW a b ha hb]
    by_cases c : (a = i ∧ b = k) ∨ (a = k ∧ b = i)
    · rw [if_pos c]; exact hw
    · rw [if_neg c]; exact h.bound a b ha hb
  · intro a b ha hb
    rw [hW a b ha hb, hW b a hb ha]
    by_cases c : (a = i ∧ b = k) ∨ (a = k ∧ b = i)
    · rw [if_pos c, if_pos (by omega)]
    · rw [if_neg c, if_neg (by omega)]; exact h.sym a b ha hb
  · intro a ha
    rw [hW a a ha ha, if_neg (by omega)]
    exact h.zero a ha
section
variable {s : List Int} (hs : Bytes s) (n : Nat) (hn : n ≤ 9)
include hs hn
end
/-- An order of n wires, told as whole numbers. -/
structure Ord (n : Nat) (xs : List Int) : Prop where
  len : xs.length = n
  bd : ∀ j, j < n → 0 ≤ xs.getD j 0 ∧ xs.getD j 0 < n
  inj : ∀ i j, i < n → j < n → xs.getD i 0 = xs.getD j 0 → i = j
theorem Ord.range (n : Nat) : Ord n ((List.range n).map fun x : Nat => (x : Int)) := by
  have hg : ∀ j, j < n → ((List.range n).map fun x : Nat => (x : Int)).getD j 0 = j := by
    intro j hj
    simp [List.getD_eq_getElem?_getD, hj]
  refine ⟨by simp, fun j hj => by rw [hg j hj]; omega, fun i j hi hj e => by rw [hg i hi, hg j hj] at e; omega⟩
section
variable {s : List Int} (hs : Bytes s) (n : Nat) (hn : n ≤ 9)
include hs hn
end
end Go.Proofs.Ytaapbnhggfmlpaa.B
end
section
namespace Go.Proofs.Ytaapbnhggfmlpaa.P
open Go.RowKit Go.Proofs.YtaapbnhggfmlpaaW.PrintWords Go.Proofs.YtaapbnhggfmlpaaW.PrintLast Go.Proofs.YtaapbnhggfmlpaaW.PrintMore
attribute [local go_sem] max2_int min2_int max_two min_two max_three min_three max_four min_four   -- for this text's walks alone
set_option linter.unusedVariables false
set_option linter.unusedSimpArgs false
def impl_orderOk.l0 : Nat → List Int → Int → List Int → Int → Int → List (List Int) → Option (Bool)
 | 0, _, _, _, _, _, _ => none
 | k + 1, x1, x5, x8, x9, x10, x690000 => if x10 < x9 then (if 0 ≤ x10 then (if x10 < (x8.length : Int) then ((impl_in.f (rd x8 x10) 0 (wrap64 ((x690000.length : Int) - 1))).bind fun t691 => (if t691 = true then (if 0 ≤ (rd x8 x10) then (if (Go.bits .and .i64 (shr .i64 x5 (rd x8 x10)) 1) = 1 then (some false) else (impl_orderOk.l0 k x1 (Go.bits .or .i64 x5 (shl .i64 1 (rd x8 x10))) x8 x9 (wrap64 (x10 + 1)) x690000)) else (none)) else (some false))) else (none)) else (none)) else ((impl_ValidBundle.f k x690000).bind fun t692 => (if t692 = true then (some ((x1.length : Int) == (x690000.length : Int))) else (some false)))
def impl_orderOk.f (k : Nat) (l0_0 : List (List Int)) (l1 : List Int) : Option (Bool) := impl_orderOk.l0 k l1 0 l1 (l1.length : Int) 0 l0_0
end Go.Proofs.Ytaapbnhggfmlpaa.P
end
section
namespace Go.Proofs.Ytaapbnhggfmlpaa.P
open Go.RowKit Go.Proofs.YtaapbnhggfmlpaaW.PrintWords Go.Proofs.YtaapbnhggfmlpaaW.PrintLast Go.Proofs.YtaapbnhggfmlpaaW.PrintMore
attribute [local go_sem] max2_int min2_int max_two min_two max_three min_three max_four min_four   -- for this text's walks alone
set_option linter.unusedVariables false
set_option linter.unusedSimpArgs false
mutual
def impl_IsLayout.l0 : Nat → List Int → List Int → List Int → Int → Int → List (List Int) → Option (Bool)
 | 0, _, _, _, _, _, _ => none
 | k + 1, x1, x2, x9, x10, x11, x694000 => if x11 < x10 then (if 0 ≤ x11 then (if x11 < (x9.length : Int) then ((impl_in.f (rd x9 x11) 1 (wrap64 ((x694000.length : Int) - 1))).bind fun t695 => (if t695 = true then (if x11 > 0 then (if 0 ≤ (wrap64 (x11 - 1)) then (if (wrap64 (x11 - 1)) < (x2.length : Int) then (impl_IsLayout.j1 k x1 x2 x9 x10 x11 (decide ((rd x2 (wrap64 (x11 - 1))) ≥ (rd x9 x11))) x694000) else (none)) else (none)) else (impl_IsLayout.j1 k x1 x2 x9 x10 x11 false x694000)) else (impl_IsLayout.j1 k x1 x2 x9 x10 x11 true x694000))) else (none)) else (none)) else ((impl_orderOk.f k x694000 x1).bind fun t697 => (some t697))
def impl_IsLayout.j1 : Nat → List Int → List Int → List Int → Int → Int → Bool → List (List Int) → Option (Bool)
 | 0, _, _, _, _, _, _, _ => none
 | k + 1, x1, x2, x9, x10, x11, x35, x694000 => if x35 = true then (some false) else (impl_IsLayout.l0 k x1 x2 x9 x10 (wrap64 (x11 + 1)) x694000)
end
end Go.Proofs.Ytaapbnhggfmlpaa.P
end
section
namespace Go.Proofs.Ytaapbnhggfmlpaa.P
open Go.RowKit Go.Proofs.YtaapbnhggfmlpaaW.PrintWords Go.Proofs.YtaapbnhggfmlpaaW.PrintLast Go.Proofs.YtaapbnhggfmlpaaW.PrintMore
attribute [local go_sem] max2_int min2_int max_two min_two max_three min_three max_four min_four   -- for this text's walks alone
set_option linter.unusedVariables false
set_option linter.unusedSimpArgs false
def slices_Index_int64_int64.l0 : Nat → List Int → Int → Int → Int → Option (Int)
 | 0, _, _, _, _ => none
 | k + 1, x0, x1, x7, x8 => if x8 < x7 then (if 0 ≤ x8 then (if x8 < (x0.length : Int) then (if x1 = (rd x0 x8) then (some x8) else (slices_Index_int64_int64.l0 k x0 x1 x7 (wrap64 (x8 + 1)))) else (none)) else (none)) else (some (-1))
def slices_Index_int64_int64.f (k : Nat) (l0 : List Int) (a1 : Int) : Option (Int) := slices_Index_int64_int64.l0 k l0 a1 (l0.length : Int) 0
end Go.Proofs.Ytaapbnhggfmlpaa.P
end
section
namespace Go.Proofs.Ytaapbnhggfmlpaa.P
open Go.RowKit Go.Proofs.YtaapbnhggfmlpaaW.PrintWords Go.Proofs.YtaapbnhggfmlpaaW.PrintLast Go.Proofs.YtaapbnhggfmlpaaW.PrintMore
attribute [local go_sem] max2_int min2_int max_two min_two max_three min_three max_four min_four   -- for this text's walks alone
set_option linter.unusedVariables false
set_option linter.unusedSimpArgs false
def slices_Contains_int64_int64.f (k : Nat) (l0 : List Int) (a1 : Int) : Option (Bool) := (slices_Index_int64_int64.f k l0 a1).bind fun t699 => (some (decide (t699 ≥ 0)))
end Go.Proofs.Ytaapbnhggfmlpaa.P
end
section
namespace Go.Proofs.Ytaapbnhggfmlpaa.P
open Go.RowKit Go.Proofs.YtaapbnhggfmlpaaW.PrintWords Go.Proofs.YtaapbnhggfmlpaaW.PrintLast Go.Proofs.YtaapbnhggfmlpaaW.PrintMore
attribute [local go_sem] max2_int min2_int max_two min_two max_three min_three max_four min_four   -- for this text's walks alone
set_option linter.unusedVariables false
set_option linter.unusedSimpArgs false
def impl_Bundle_weight.f (l0_0 : List (List Int)) (l1 : List Int) (a2 : Int) : Option (Int) := if 0 ≤ a2 then (if a2 < (l1.length : Int) then (if 0 ≤ (rd l1 a2) then (if (rd l1 a2) < (l0_0.length : Int) then (if 0 ≤ (wrap64 (a2 + 1)) then (if (wrap64 (a2 + 1)) < (l1.length : Int) then (if 0 ≤ (rd l1 (wrap64 (a2 + 1))) then (if (rd l1 (wrap64 (a2 + 1))) < ((rd_Ls2 l0_0 (rd l1 a2)).length : Int) then (some (rd (rd_Ls2 l0_0 (rd l1 a2)) (rd l1 (wrap64 (a2 + 1))))) else (none)) else (none)) else (none)) else (none)) else (none)) else (none)) else (none)) else (none)
end Go.Proofs.Ytaapbnhggfmlpaa.P
end
