/- The tree bound: the reference's and the program's loops both grow a tree by a least edge. -/
import Derived.Test.YtaapbnhggfmlpaaB1
import Derived.Test.YtaapbnhggfmlpaaA2
import Derived.Test.YtaapbnhggfmlpaaPxf25
import Derived.Test.YtaapbnhggfmlpaaX02
set_option linter.unusedVariables false
namespace Go.Proofs.Ytaapbnhggfmlpaa.B
open Go.RowKit Go.Proofs.Ytaapbnhggfmlpaa.P Go.Proofs.YtaapbnhggfmlpaaW.PrintWords Go.Proofs.YtaapbnhggfmlpaaW.PrintLast Go.Proofs.Ytaapbnhggfmlpaa.A

/-- With rounds enough, g answers r. -/
def Evl {α : Type} (g : Nat → Option α) (r : α) : Prop := ∃ K, ∀ k, K ≤ k → g k = some r
theorem Evl.of {α : Type} {g : Nat → Option α} {r : α} (K : Nat) (h : ∀ k, K ≤ k → g k = some r) : Evl g r := ⟨K, h⟩
theorem Evl.step {α : Type} {g h : Nat → Option α} {r : α} (K : Nat) (e : ∀ k, K ≤ k → g (k + 1) = h k) (H : Evl h r) : Evl g r := by
  obtain ⟨K', h'⟩ := H
  refine ⟨K + K' + 1, fun k hk => ?_⟩
  obtain ⟨k, rfl⟩ : ∃ m, k = m + 1 := ⟨k - 1, by omega⟩
  rw [e k (by omega), h' k (by omega)]
theorem Evl.same {α : Type} {g h : Nat → Option α} {r : α} (K : Nat) (e : ∀ k, K ≤ k → g k = h k) (H : Evl h r) : Evl g r := by
  obtain ⟨K', h'⟩ := H
  exact ⟨K + K', fun k hk => by rw [e k (by omega), h' k (by omega)]⟩
theorem Evl.bind {α β : Type} {g : Nat → Option α} {h : Nat → α → Option β} {a : α} {r : β} (H : Evl g a) (H' : Evl (fun k => h k a) r) : Evl (fun k => (g k).bind (h k)) r := by
  obtain ⟨K, h1⟩ := H
  obtain ⟨K', h2⟩ := H'
  exact ⟨K + K', fun k hk => by show (g k).bind (h k) = _; rw [h1 k (by omega)]; exact h2 k (by omega)⟩

def up (S : List Nat) : List Int := S.map (fun v : Nat => (v : Int))
theorem up_length (S : List Nat) : (up S).length = S.length := by simp [up]
theorem up_mem (S : List Nat) (v : Nat) : (v : Int) ∈ up S ↔ v ∈ S := by
  unfold up
  rw [List.mem_map]
  constructor
  · rintro ⟨a, h, e⟩
    obtain rfl : a = v := by omega
    exact h
  · exact fun h => ⟨v, h, rfl⟩
theorem up_getD (S : List Nat) (i : Nat) (h : i < S.length) : (up S).getD i 0 = ((S.getD i 0 : Nat) : Int) := by
  simp [up, List.getD_eq_getElem?_getD, List.getElem?_eq_getElem h]
theorem up_snoc (S : List Nat) (a : Nat) : up S ++ [(a : Int)] = up (S ++ [a]) := by simp [up]

theorem has0 (xs : List Int) (a : Int) (hl : xs.length ≤ 1048576) : ∀ (d k i : Nat), xs.length - i = d → d < k → i ≤ xs.length → spec_l00Has.l0 k xs a i = some (decide (a ∈ xs.drop i)) := by
  intro d
  induction d with
  | zero =>
    intro k i hd hk hi
    obtain ⟨k, rfl⟩ : ∃ m, k = m + 1 := ⟨k - 1, by omega⟩
    simp only [spec_l00Has.l0]
    rw [if_neg (by omega), List.drop_eq_nil_of_le (by omega)]
    simp
  | succ d ih =>
    intro k i hd hk hi
    obtain ⟨k, rfl⟩ : ∃ m, k = m + 1 := ⟨k - 1, by omega⟩
    have hil : i < xs.length := by omega
    simp only [spec_l00Has.l0]
    have hdr := List.drop_eq_getElem_cons hil
    rw [if_pos (by omega), if_pos (by omega), rd_nat]
    have e : xs.getD i 0 = xs[i] := by simp [List.getD_eq_getElem?_getD, List.getElem?_eq_getElem hil]
    rw [e]
    by_cases c : xs[i] = a
    · rw [if_pos c, hdr]; simp [c]
    · rw [if_neg c, w64s hil (by omega), ih k (i + 1) (by omega) (by omega) (by omega), hdr]
      congr 1
      rw [decide_eq_decide]
      exact ⟨List.mem_cons_of_mem _, fun h => (List.mem_cons.1 h).resolve_left (fun e => c e.symm)⟩
theorem has (xs : List Int) (a : Int) (k : Nat) (hl : xs.length ≤ 1048576) (hk : xs.length < k) : spec_l00Has.f k xs a = some (decide (a ∈ xs)) := by
  unfold spec_l00Has.f
  rw [show (0 : Int) = ((0 : Nat) : Int) from rfl, has0 xs a hl xs.length k 0 rfl hk (by omega)]
  rfl

section
variable (l : List (List Int)) (V : Valid l) (S : List Nat) (s : Int)

/-- The pairs that the reference's scan has behind it, at place p, wire w. -/
def Sc (p w : Nat) (i j : Nat) : Prop := (∃ q, q < p ∧ S.getD q 0 = i) ∨ (S.getD p 0 = i ∧ j < w)
/-- A least edge is found, and g goes on with it. -/
def Out (g : Nat → Option (Int × Bool)) : Prop :=
  ∃ (b' : Int) (a' : Nat), MinCross l.length (Wt l) S b' a' ∧ ∀ r, Evl (fun k => spec_TreeBound.l0 k (up (S ++ [a'])) (wrap64 (s + b')) l) r → Evl g r
theorem Out.step {g h : Nat → Option (Int × Bool)} (K : Nat) (e : ∀ k, K ≤ k → g (k + 1) = h k) (H : Out l S s h) : Out l S s g := by
  obtain ⟨b', a', hm, hr⟩ := H
  exact ⟨b', a', hm, fun r he => Evl.step K e (hr r he)⟩

include V
theorem spec2 (hS : ∀ i, i ∈ S → i < l.length) (hl : S.length < l.length) (p : Nat) (hp : p < S.length)
    (rest : ∀ (b a : Int), J l.length (Wt l) S (Sc S (p + 1) 0) b a → Out l S s (fun k => spec_TreeBound.l1 k (up S) s a b ((p + 1 : Nat) : Int) l)) :
    ∀ (d w : Nat) (b a : Int), l.length - w = d → w ≤ l.length → J l.length (Wt l) S (Sc S p w) b a → Out l S s (fun k => spec_TreeBound.l2 k (up S) s a b p w l) := by
  have n9 := V.le
  have hpm : S.getD p 0 ∈ S := getD_mem hp
  have hpl := hS _ hpm
  have hrow := V.row _ hpl
  intro d
  induction d with
  | zero =>
    intro w b a hd hw hJ
    refine Out.step l S s 0 (h := fun k => spec_TreeBound.l1 k (up S) s a b ((p + 1 : Nat) : Int) l) (fun k _ => ?_) (rest b a (hJ.skip (fun i j hi hs hn => ?_)))
    · simp only [spec_TreeBound.l2]
      rw [if_neg (by omega), w64s hp (by omega)]
    · rcases hs with ⟨q, hq, e⟩ | ⟨_, h⟩
      · by_cases e' : q = p
        · subst e'; exact .inl (.inr ⟨e, by omega⟩)
        · exact .inl (.inl ⟨q, by omega, e⟩)
      · omega
  | succ d ih =>
    intro w b a hd hw hJ
    have hwl : w < l.length := by omega
    have hrp : rd (up S) p = ((S.getD p 0 : Nat) : Int) := by rw [rd_nat, up_getD S p hp]
    have hW : (rd (rd_Ls2 l (rd (up S) p)) w) = Wt l (S.getD p 0) w := by rw [hrp]; rfl
    have hb := V.bound (S.getD p 0) w hpl hwl
    have keep : ∀ i j, i ∈ S → Sc S p (w + 1) i j → j < l.length → Sc S p w i j ∨ (i = S.getD p 0 ∧ j = w) := by
      intro i j _ hs _
      rcases hs with h | ⟨e, h⟩
      · exact .inl (.inl h)
      · by_cases e' : j = w
        · exact .inr ⟨e.symm, e'⟩
        · exact .inl (.inr ⟨e, by omega⟩)
    have go3 : ∀ (x : Bool) (b1 a1 : Int), (x = true → a1 = w ∧ b1 = Wt l (S.getD p 0) w) → (x = false → a1 = a ∧ b1 = b) → J l.length (Wt l) S (Sc S p (w + 1)) b1 a1 → Out l S s (fun k => spec_TreeBound.j3 k (up S) s a b p w x l) := by
      intro x b1 a1 h1 h2 hJ1
      refine Out.step l S s 0 (h := fun k => spec_TreeBound.l2 k (up S) s a1 b1 p ((w + 1 : Nat) : Int) l) (fun k _ => ?_) (ih (w + 1) b1 a1 (by omega) (by omega) hJ1)
      simp only [spec_TreeBound.j3]
      cases x with
      | true =>
        obtain ⟨rfl, rfl⟩ := h1 rfl
        rw [if_pos rfl, if_pos (by omega), if_pos (by rw [up_length]; omega), if_pos (by rw [hrp]; omega), if_pos (by rw [hrp]; omega), if_pos (by omega),
          if_pos (by rw [hrp, rdL_nat]; omega), hW, w64s hwl (by omega)]
      | false =>
        obtain ⟨rfl, rfl⟩ := h2 rfl
        rw [if_neg (by simp), w64s hwl (by omega)]
    by_cases c1 : w ∈ S
    · refine Out.step l S s 20 (h := fun k => spec_TreeBound.j3 k (up S) s a b p w false l) (fun k hk => ?_) (go3 false b a (fun h => by cases h) (fun _ => ⟨rfl, rfl⟩) (hJ.skip (fun i j hi hs hn => ?_)))
      · simp only [spec_TreeBound.l2]
        rw [if_pos (by omega), has _ _ _ (by rw [up_length]; omega) (by rw [up_length]; omega)]
        simp only [Option.bind_some]
        rw [if_pos (by simpa using (up_mem S w).2 c1)]
      · rcases keep i j hi hs hn with h | ⟨_, rfl⟩
        · exact .inl h
        · exact .inr (.inl c1)
    · have hhas : ∀ k, 20 ≤ k → spec_l00Has.f k (up S) w = some false := fun k hk => by
        rw [has _ _ _ (by rw [up_length]; omega) (by rw [up_length]; omega), decide_eq_false (fun h => c1 ((up_mem S w).1 h))]
      by_cases c2 : b < 0
      · refine Out.step l S s 20 (h := fun k => spec_TreeBound.j3 k (up S) s a b p w true l) (fun k hk => ?_) (go3 true _ _ (fun _ => ⟨rfl, rfl⟩) (fun h => by cases h) (hJ.take hpm c1 hwl hb.1 (.inl c2) (fun i j hi hs hn => ?_)))
        · simp only [spec_TreeBound.l2]
          rw [if_pos (by omega), hhas k hk]
          simp only [Option.bind_some]
          rw [if_neg (by simp), if_pos c2]
        · rcases keep i j hi hs hn with h | h
          · exact .inl h
          · exact .inr (.inr h)
      · have body : ∀ k, 20 ≤ k → spec_TreeBound.l2 (k + 1) (up S) s a b p w l = spec_TreeBound.j3 k (up S) s a b p w (decide (Wt l (S.getD p 0) w < b)) l := fun k hk => by
          simp only [spec_TreeBound.l2]
          rw [if_pos (by omega), hhas k hk]
          simp only [Option.bind_some]
          rw [if_neg (by simp), if_neg c2, if_pos (by omega), if_pos (by rw [up_length]; omega), if_pos (by rw [hrp]; omega), if_pos (by rw [hrp]; omega), if_pos (by omega),
            if_pos (by rw [hrp, rdL_nat]; omega), hW]
        by_cases c3 : Wt l (S.getD p 0) w < b
        · refine Out.step l S s 20 (h := fun k => spec_TreeBound.j3 k (up S) s a b p w true l) (fun k hk => by rw [body k hk, decide_eq_true c3]) (go3 true _ _ (fun _ => ⟨rfl, rfl⟩) (fun h => by cases h) (hJ.take hpm c1 hwl hb.1 (.inr c3) (fun i j hi hs hn => ?_)))
          rcases keep i j hi hs hn with h | h
          · exact .inl h
          · exact .inr (.inr h)
        · refine Out.step l S s 20 (h := fun k => spec_TreeBound.j3 k (up S) s a b p w false l) (fun k hk => by rw [body k hk, decide_eq_false c3]) (go3 false b a (fun h => by cases h) (fun _ => ⟨rfl, rfl⟩) (hJ.skip (fun i j hi hs hn => ?_)))
          rcases keep i j hi hs hn with h | ⟨rfl, rfl⟩
          · exact .inl h
          · exact .inr (.inr ⟨by omega, by omega⟩)

theorem spec1 (hn : S.Nodup) (hS : ∀ i, i ∈ S → i < l.length) (hl : S.length < l.length) (h0 : 0 ∈ S) :
    ∀ (d p : Nat) (b a : Int), S.length - p = d → p ≤ S.length → J l.length (Wt l) S (Sc S p 0) b a → Out l S s (fun k => spec_TreeBound.l1 k (up S) s a b p l) := by
  have n9 := V.le
  intro d
  induction d with
  | zero =>
    intro p b a hd hp hJ
    obtain ⟨a', e, hm⟩ := hJ.final hn hS hl ⟨0, h0⟩ (fun i j hi _ => by
      obtain ⟨q, hq, e⟩ := List.getElem_of_mem hi
      exact .inl ⟨q, by omega, by rw [List.getD_eq_getElem?_getD, List.getElem?_eq_getElem hq]; exact e⟩)
    subst e
    refine ⟨b, a', hm, fun r he => Evl.step 0 (fun k _ => ?_) he⟩
    simp only [spec_TreeBound.l1]
    rw [if_neg (by rw [up_length]; omega), if_pos (by rw [up_length]; omega), up_snoc]
  | succ d ih =>
    intro p b a hd hp hJ
    refine Out.step l S s 0 (h := fun k => spec_TreeBound.l2 k (up S) s a b p ((0 : Nat) : Int) l) (fun k _ => ?_) (spec2 l V S s hS hl p (by omega) (fun b a hJ => ih (p + 1) b a (by omega) (by omega) hJ) l.length 0 b a rfl (by omega) hJ)
    simp only [spec_TreeBound.l1]
    rw [if_pos (by rw [up_length]; omega)]
    rfl
end

theorem spec0 (l : List (List Int)) (V : Valid l) : ∀ (d : Nat) (S : List Nat) (s : Int), l.length - S.length = d → S.Nodup → (∀ i, i ∈ S → i < l.length) → S.length ≤ l.length → 0 ∈ S → 0 ≤ s → s ≤ 1000 * S.length →
    ∃ r, Evl (fun k => spec_TreeBound.l0 k (up S) s l) (r, true) ∧ Prim l.length (Wt l) S s r := by
  have n9 := V.le
  intro d
  induction d with
  | zero =>
    intro S s hd hn hS hl h0 hs0 hs1
    refine ⟨s, Evl.of 1 (fun k hk => ?_), .done (by omega)⟩
    obtain ⟨k, rfl⟩ : ∃ m, k = m + 1 := ⟨k - 1, by omega⟩
    simp only [spec_TreeBound.l0]
    rw [if_neg (by rw [up_length]; omega)]
  | succ d ih =>
    intro S s hd hn hS hl h0 hs0 hs1
    obtain ⟨b', a', hm, hr⟩ := spec1 l V S s hn hS (by omega) h0 S.length 0 (-1) (-1) rfl (by omega) (.inl ⟨by omega, fun i j hi hs hj => by
      rcases hs with ⟨q, hq, _⟩ | ⟨_, h⟩ <;> omega⟩)
    have hb : 0 ≤ b' ∧ b' ≤ 1000 := by
      obtain ⟨i, hi, e⟩ := hm.edge
      have := V.bound i a' (hS i hi) hm.lt
      omega
    have hn' : (S ++ [a']).Nodup := by
      rw [List.nodup_append]
      exact ⟨hn, by simp, fun x hx y hy => by simp at hy; subst hy; rintro rfl; exact hm.out hx⟩
    obtain ⟨r, he, hp⟩ := ih (S ++ [a']) (s + b') (by simp; omega) hn' (fun i hi => by
      rcases List.mem_append.1 hi with hi | hi
      · exact hS i hi
      · simp at hi; subst hi; exact hm.lt) (by simp; omega) (by simp [h0]) (by omega) (by simp; omega)
    refine ⟨r, Evl.step 0 (h := fun k => spec_TreeBound.l1 k (up S) s (-1) (-1) ((0 : Nat) : Int) l) (fun k _ => ?_) (hr _ (by rw [w64 (by omega)]; exact he)), .step (by omega) hm (fun v => by simp [or_comm]) hn' hp⟩
    simp only [spec_TreeBound.l0]
    rw [if_pos (by rw [up_length]; omega)]
    rfl

/-! ### the program's loops -/
section
variable (l : List (List Int)) (V : Valid l) (S : List Nat)
def Sc' (p w : Nat) (i j : Nat) : Prop := i < p ∨ (i = p ∧ j < w)
include V
theorem in_J (hS : ∀ i, i ∈ S → i < l.length) (i : Nat) (hi : i < l.length) : ∀ (d w : Nat) (b a : Int), l.length - w = d → w ≤ l.length → J l.length (Wt l) S (Sc' i w) b a →
    J l.length (Wt l) S (Sc' i l.length) (tbIn (up S) i ((l.getD i []).drop w) w b a).1 (tbIn (up S) i ((l.getD i []).drop w) w b a).2 := by
  have n9 := V.le
  have hrow := V.row i hi
  intro d
  induction d with
  | zero =>
    intro w b a hd hw hJ
    obtain rfl : w = l.length := by omega
    rw [List.drop_eq_nil_of_le (by omega)]
    exact hJ
  | succ d ih =>
    intro w b a hd hw hJ
    have hwl : w < l.length := by omega
    have hb := V.bound i w hi hwl
    have keep : ∀ i' j', i' ∈ S → Sc' i (w + 1) i' j' → j' < l.length → Sc' i w i' j' ∨ (i' = i ∧ j' = w) := by
      intro i' j' _ hs _
      rcases hs with h | ⟨e, h⟩
      · exact .inl (.inl h)
      · by_cases e' : j' = w
        · exact .inr ⟨e, e'⟩
        · exact .inl (.inr ⟨e, by omega⟩)
    rw [tbIn_drop _ _ _ _ _ _ (by omega), show (l.getD i []).getD w 0 = Wt l i w from rfl]
    by_cases c : (i : Int) ∈ up S ∧ (w : Int) ∉ up S ∧ (b < 0 ∨ Wt l i w < b)
    · rw [if_pos c]
      exact ih (w + 1) _ _ (by omega) (by omega) (hJ.take ((up_mem S i).1 c.1) (fun h => c.2.1 ((up_mem S w).2 h)) hwl hb.1 c.2.2 (fun i' j' hi' hs hn => (keep i' j' hi' hs hn).elim .inl (fun h => .inr (.inr h))))
    · rw [if_neg c]
      refine ih (w + 1) _ _ (by omega) (by omega) (hJ.skip (fun i' j' hi' hs hn => ?_))
      rcases keep i' j' hi' hs hn with h | ⟨rfl, rfl⟩
      · exact .inl h
      · by_cases m : j' ∈ S
        · exact .inr (.inl m)
        · refine .inr (.inr ?_)
          have h1 := (up_mem S i').2 hi'
          have h2 : (j' : Int) ∉ up S := fun h => m ((up_mem S j').1 h)
          constructor
          · by_cases h : 0 ≤ b
            · exact h
            · exact absurd ⟨h1, h2, .inl (by omega)⟩ c
          · by_cases h : b ≤ Wt l i' j'
            · exact h
            · exact absurd ⟨h1, h2, .inr (by omega)⟩ c
theorem out_J (hS : ∀ i, i ∈ S → i < l.length) : ∀ (d i : Nat) (b a : Int), l.length - i = d → i ≤ l.length → J l.length (Wt l) S (Sc' i 0) b a →
    J l.length (Wt l) S (Sc' l.length 0) (tbOut (up S) (l.drop i) i b a).1 (tbOut (up S) (l.drop i) i b a).2 := by
  intro d
  induction d with
  | zero =>
    intro i b a hd hi hJ
    obtain rfl : i = l.length := by omega
    rw [List.drop_eq_nil_of_le (by omega)]
    exact hJ
  | succ d ih =>
    intro i b a hd hi hJ
    rw [tbOut_drop _ _ _ _ _ (by omega)]
    refine ih (i + 1) _ _ (by omega) (by omega) (J.skip (in_J l V S hS i (by omega) l.length 0 b a rfl (by omega) hJ) (fun i' j' hi' hs hn => ?_))
    rcases hs with h | ⟨_, h⟩
    · by_cases e : i' = i
      · exact .inl (.inr ⟨e, hn⟩)
      · exact .inl (.inl (by omega))
    · omega
end

theorem impl0 (l : List (List Int)) (V : Valid l) : ∀ (d : Nat) (S : List Nat) (s : Int) (k : Nat), l.length - S.length = d → d < k → S.Nodup → (∀ i, i ∈ S → i < l.length) → S.length ≤ l.length → 0 ∈ S → 0 ≤ s → s ≤ 1000 * S.length →
    ∃ r, tbRun l k (up S) s = some r ∧ Prim l.length (Wt l) S s r := by
  have n9 := V.le
  intro d
  induction d with
  | zero =>
    intro S s k hd hk hn hS hl h0 hs0 hs1
    obtain ⟨k, rfl⟩ : ∃ m, k = m + 1 := ⟨k - 1, by omega⟩
    refine ⟨s, ?_, .done (by omega)⟩
    simp only [tbRun]
    rw [if_neg (by rw [up_length]; omega)]
  | succ d ih =>
    intro S s k hd hk hn hS hl h0 hs0 hs1
    obtain ⟨k, rfl⟩ : ∃ m, k = m + 1 := ⟨k - 1, by omega⟩
    have hJ := out_J l V S hS l.length 0 (-1) 0 rfl (by omega) (.inl ⟨by omega, fun i j hi hs hj => by rcases hs with h | ⟨_, h⟩ <;> omega⟩)
    rw [List.drop_zero] at hJ
    obtain ⟨a', e, hm⟩ := hJ.final hn hS (by omega) ⟨0, h0⟩ (fun i j hi _ => .inl (hS i hi))
    have hb : 0 ≤ (tbOut (up S) l 0 (-1) 0).1 ∧ (tbOut (up S) l 0 (-1) 0).1 ≤ 1000 := by
      obtain ⟨i, hi, e⟩ := hm.edge
      have := V.bound i a' (hS i hi) hm.lt
      rw [show (0 : Int) = ((0 : Nat) : Int) from rfl] at *
      omega
    have ha := hm.lt
    have hn' : (a' :: S).Nodup := List.nodup_cons.2 ⟨hm.out, hn⟩
    obtain ⟨r, he, hp⟩ := ih (a' :: S) (s + (tbOut (up S) l 0 (-1) 0).1) k (by simp; omega) (by omega) hn' (fun i hi => by
      rcases List.mem_cons.1 hi with rfl | hi
      · exact hm.lt
      · exact hS i hi) (by simp; omega) (by simp [h0]) (by omega) (by simp; omega)
    refine ⟨r, ?_, .step (by omega) hm (fun v => List.mem_cons) hn' hp⟩
    simp only [tbRun]
    rw [if_pos (by rw [up_length]; omega), show (tbOut (up S) l 0 (-1) 0).2 = (a' : Int) from e, if_neg, w64 (by omega)]
    · exact he
    · rintro (h | h)
      · exact hm.out ((up_mem S a').1 h)
      · rw [WalkArith.wf_i64 (by omega)] at h; cases h

open Classical in
theorem spec_TB (l : List (List Int)) : ∃ r, Evl (fun k => spec_TreeBound.f k l) r ∧ impl_TreeBound.f l = some r ∧ (Valid l → ∃ t, r = (t, true) ∧ Prim l.length (Wt l) [0] 0 t) := by
  by_cases V : Valid l
  · obtain ⟨r, h1, h2⟩ := spec0 l V (l.length - 1) [0] 0 (by simp) (by simp) (by simp; exact V.pos) (by simp; exact V.pos) (by simp) (by omega) (by simp)
    obtain ⟨r', h3, h4⟩ := impl0 l V (l.length - 1) [0] 0 12 (by simp) (by have := V.le; omega) (by simp) (by simp; exact V.pos) (by simp; exact V.pos) (by simp) (by omega) (by simp)
    have e : r = r' := h2.unique V.sym V.bound h4 (by simp) (by simp; exact V.pos) (by simp) (by simp)
    subst e
    refine ⟨(r, true), ?_, ?_, fun _ => ⟨r, rfl, h2⟩⟩
    · unfold spec_TreeBound.f
      refine Evl.bind (a := true) (Evl.of 320 (fun k hk => by rw [l10Is l k hk, decide_eq_true V])) ?_
      exact h1
    · unfold impl_TreeBound.f
      rw [validBundle l 300 (by omega), decide_eq_true V]
      simp only [Option.bind_some, if_true]
      rw [show [(0 : Int)] = up [0] from rfl, h3]
      rfl
  · refine ⟨(0, false), ?_, ?_, fun h => absurd h V⟩
    · unfold spec_TreeBound.f
      refine Evl.bind (a := false) (Evl.of 320 (fun k hk => by rw [l10Is l k hk, decide_eq_false V])) (Evl.of 0 (fun k _ => by simp))
    · unfold impl_TreeBound.f
      rw [validBundle l 300 (by omega), decide_eq_false V]
      simp
end Go.Proofs.Ytaapbnhggfmlpaa.B
