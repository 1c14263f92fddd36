/- Growing a tree by a least edge: whatever least edge is taken, the sum is the same, and no walk through all points has a lesser one. -/
set_option linter.unusedVariables false
namespace Go.Proofs.Ytaapbnhggfmlpaa.A

inductive Cn (E : Nat → Nat → Prop) : Nat → Nat → Prop
  | refl (a : Nat) : Cn E a a
  | edge {a b : Nat} : E a b → Cn E a b
  | symm {a b : Nat} : Cn E a b → Cn E b a
  | trans {a b c : Nat} : Cn E a b → Cn E b c → Cn E a c

theorem Cn.closed {E : Nat → Nat → Prop} {S : List Nat} (h : ∀ a b, E a b → (a ∈ S ↔ b ∈ S)) : ∀ {a b : Nat}, Cn E a b → (a ∈ S ↔ b ∈ S) := by
  intro a b c
  induction c with
  | refl a => exact Iff.rfl
  | edge e => exact h _ _ e
  | symm _ ih => exact ih.symm
  | trans _ _ ih1 ih2 => exact ih1.trans ih2
theorem Cn.under {E : Nat → Nat → Prop} {n : Nat} (h : ∀ a b, E a b → a < n ∧ b < n) : ∀ {a b : Nat}, Cn E a b → (a < n ↔ b < n) := by
  intro a b c
  induction c with
  | refl a => exact Iff.rfl
  | edge e => exact ⟨fun _ => (h _ _ e).2, fun _ => (h _ _ e).1⟩
  | symm _ ih => exact ih.symm
  | trans _ _ ih1 ih2 => exact ih1.trans ih2

def cset (E : Nat → Nat → Prop) : Setoid Nat := ⟨Cn E, ⟨Cn.refl, Cn.symm, Cn.trans⟩⟩
noncomputable def rep (E : Nat → Nat → Prop) (v : Nat) : Nat := Classical.choose (Quot.exists_rep (Quotient.mk (cset E) v))
theorem rep_mk (E : Nat → Nat → Prop) (v : Nat) : (Quotient.mk (cset E) (rep E v)) = Quotient.mk (cset E) v := Classical.choose_spec (Quot.exists_rep (Quotient.mk (cset E) v))
theorem rep_cn (E : Nat → Nat → Prop) (v : Nat) : Cn E (rep E v) v := Quotient.exact (s := cset E) (rep_mk E v)
theorem rep_eq {E : Nat → Nat → Prop} {u v : Nat} (h : Cn E u v) : rep E u = rep E v := by
  have e : Quotient.mk (cset E) u = Quotient.mk (cset E) v := Quotient.sound (s := cset E) h
  unfold rep
  simp only [e]
theorem cn_of_rep {E : Nat → Nat → Prop} {u v : Nat} (h : rep E u = rep E v) : Cn E u v :=
  (rep_cn E u).symm.trans (h ▸ rep_cn E v)

def cnt (B : Nat) (L : List Nat) : Nat := ((List.range B).filter (fun r => decide (r ∈ L))).length
theorem cnt_congr {B : Nat} {L M : List Nat} (h : ∀ r, r ∈ L ↔ r ∈ M) : cnt B L = cnt B M := by
  unfold cnt
  congr 2
  funext r
  simp [h r]
theorem cnt_cons (B x : Nat) (L : List Nat) (hx : x < B) : cnt B (x :: L) = cnt B L + if x ∈ L then 0 else 1 := by
  by_cases h : x ∈ L
  · rw [if_pos h]
    exact cnt_congr (fun r => ⟨fun hr => by rcases List.mem_cons.1 hr with rfl | hr <;> assumption, fun hr => List.mem_cons_of_mem _ hr⟩)
  · rw [if_neg h]
    induction B with
    | zero => omega
    | succ B ih =>
      unfold cnt at ih ⊢
      rw [List.range_succ, List.filter_append, List.filter_append, List.length_append, List.length_append]
      by_cases e : x = B
      · subst e
        have e1 : (List.range x).filter (fun r => decide (r ∈ x :: L)) = (List.range x).filter (fun r => decide (r ∈ L)) := by
          apply List.filter_congr
          intro r hr
          have : r ≠ x := by have := List.mem_range.1 hr; omega
          simp [this]
        rw [e1]
        simp [h]
      · have h1 := ih (by omega)
        have h2 : [B].filter (fun r => decide (r ∈ x :: L)) = [B].filter (fun r => decide (r ∈ L)) := by
          apply List.filter_congr
          intro r hr
          have : r ≠ x := by have := List.mem_singleton.1 hr; omega
          simp [this]
        rw [h1, h2]
        omega
theorem cnt_le (B : Nat) (L : List Nat) : cnt B L ≤ B := by
  unfold cnt
  exact Nat.le_trans (List.length_filter_le _ _) (by simp)
theorem cnt_nodup {B : Nat} : ∀ {L : List Nat}, L.Nodup → (∀ i, i ∈ L → i < B) → cnt B L = L.length
  | [], _, _ => by simp [cnt]
  | x :: L, hn, h => by
    rw [cnt_cons B x L (h x (by simp)), if_neg (List.nodup_cons.1 hn).1, cnt_nodup (List.nodup_cons.1 hn).2 (fun i hi => h i (by simp [hi]))]
    rfl

def sumT (f : Nat → Int) : Nat → Int
  | 0 => 0
  | m + 1 => sumT f m + f m
theorem sumT_add (f g : Nat → Int) : ∀ m, sumT (fun t => f t + g t) m = sumT f m + sumT g m
  | 0 => rfl
  | m + 1 => by simp only [sumT, sumT_add f g m]; omega
theorem sumT_congr {f g : Nat → Int} : ∀ m, (∀ t, t < m → f t = g t) → sumT f m = sumT g m
  | 0, _ => rfl
  | m + 1, h => by simp only [sumT]; rw [sumT_congr m (fun t ht => h t (by omega)), h m (by omega)]
theorem sumT_le {f g : Nat → Int} : ∀ m, (∀ t, t < m → f t ≤ g t) → sumT f m ≤ sumT g m
  | 0, _ => Int.le_refl _
  | m + 1, h => by simp only [sumT]; have := sumT_le m (fun t ht => h t (by omega)); have := h m (by omega); omega
/-- A number from 0 to M is how many thresholds it is above. -/
theorem sumT_above (b : Int) (h0 : 0 ≤ b) : ∀ M : Nat, sumT (fun t => if (t : Int) < b then 1 else 0) M = if b ≤ M then b else M
  | 0 => by simp only [sumT]; split <;> omega
  | M + 1 => by
    simp only [sumT]
    rw [sumT_above b h0 M]
    split <;> split <;> split <;> omega

section
variable (n : Nat) (W : Nat → Nat → Int)
def E (t : Nat) (a b : Nat) : Prop := a < n ∧ b < n ∧ W a b ≤ t
noncomputable def cl (t : Nat) (S : List Nat) : Nat := cnt n (S.map (rep (E n W t)))
variable {n W}
theorem rep_lt {t v : Nat} (h : v < n) : rep (E n W t) v < n := ((rep_cn (E n W t) v).under (fun a b e => ⟨e.1, e.2.1⟩)).2 h
theorem cl_cons {t a : Nat} {S : List Nat} (h : a < n) : cl n W t (a :: S) = cl n W t S + if rep (E n W t) a ∈ S.map (rep (E n W t)) then 0 else 1 := by
  unfold cl
  rw [List.map_cons, cnt_cons _ _ _ (rep_lt h)]
theorem cl_same {t a i : Nat} {S : List Nat} (h : a < n) (hi : i ∈ S) (hin : i < n) (hw : W i a ≤ t) : cl n W t (a :: S) = cl n W t S := by
  rw [cl_cons h, if_pos]
  · rfl
  · exact List.mem_map.2 ⟨i, hi, rep_eq (.edge ⟨hin, h, hw⟩)⟩
theorem cl_more {t a : Nat} {S : List Nat} (hsym : ∀ i j, i < n → j < n → W i j = W j i) (h : a < n) (ha : a ∉ S) (hS : ∀ i, i ∈ S → i < n) (hno : ∀ i j, i ∈ S → j ∉ S → j < n → (t : Int) < W i j) : cl n W t (a :: S) = cl n W t S + 1 := by
  rw [cl_cons h, if_neg]
  intro hm
  obtain ⟨i, hi, e⟩ := List.mem_map.1 hm
  have c := cn_of_rep e
  have := (Cn.closed (S := S) (fun x y e => by
    constructor
    · intro hx
      by_cases hy : y ∈ S
      · exact hy
      · have := hno x y hx hy e.2.1; have := e.2.2; omega
    · intro hy
      by_cases hx : x ∈ S
      · exact hx
      · have h1 := hno y x hy hx e.1; have h2 := e.2.2; rw [hsym x y e.1 e.2.1] at h2; omega) c).1 hi
  exact ha this
theorem cl_le {t a : Nat} {S : List Nat} (h : a < n) : cl n W t (a :: S) ≤ cl n W t S + 1 := by
  rw [cl_cons h]; split <;> omega
theorem cl_one {t a : Nat} (h : a < n) : cl n W t [a] = 1 := by
  rw [cl_cons h, if_neg (by simp)]
  simp [cl, cnt]
theorem cl_full {t : Nat} {S S' : List Nat} (h : ∀ v, v ∈ S ↔ v ∈ S') : cl n W t S = cl n W t S' := by
  unfold cl
  apply cnt_congr
  intro r
  simp only [List.mem_map]
  constructor
  · rintro ⟨v, hv, e⟩; exact ⟨v, (h v).1 hv, e⟩
  · rintro ⟨v, hv, e⟩; exact ⟨v, (h v).2 hv, e⟩

/-- b is the least weight between S and what is outside, a an end of such an edge. -/
structure MinCross (n : Nat) (W : Nat → Nat → Int) (S : List Nat) (b : Int) (a : Nat) : Prop where
  out : a ∉ S
  lt : a < n
  edge : ∃ i, i ∈ S ∧ W i a = b
  least : ∀ i j, i ∈ S → j ∉ S → j < n → b ≤ W i j

inductive Prim (n : Nat) (W : Nat → Nat → Int) : List Nat → Int → Int → Prop
  | done {S : List Nat} {s : Int} : S.length = n → Prim n W S s s
  | step {S T : List Nat} {s r b : Int} {a : Nat} : S.length < n → MinCross n W S b a → (∀ v, v ∈ T ↔ v = a ∨ v ∈ S) → T.Nodup → Prim n W T (s + b) r → Prim n W S s r

theorem full_of_nodup : ∀ {n : Nat} {S : List Nat}, S.Nodup → (∀ i, i ∈ S → i < n) → S.length = n → ∀ v, v ∈ S ↔ v ∈ List.range n := by
  intro n S hn hS hl v
  constructor
  · intro hv; exact List.mem_range.2 (hS v hv)
  · intro hv
    have hv' := List.mem_range.1 hv
    by_cases h : v ∈ S
    · exact h
    · have h1 := cnt_nodup (B := n) (List.nodup_cons.2 ⟨h, hn⟩) (fun i hi => by rcases List.mem_cons.1 hi with rfl | hi; exact hv'; exact hS i hi)
      have h2 := cnt_le n (v :: S)
      simp at h1
      omega

theorem Prim.value (hsym : ∀ i j, i < n → j < n → W i j = W j i) (hb : ∀ i j, i < n → j < n → 0 ≤ W i j ∧ W i j ≤ 1000) {S : List Nat} {s r : Int} (h : Prim n W S s r) (hn : S.Nodup) (hS : ∀ i, i ∈ S → i < n) :
    r = s + sumT (fun t => (cl n W t (List.range n) : Int) - cl n W t S) 1000 := by
  induction h with
  | @done S s hl =>
    have e : sumT (fun t => (cl n W t (List.range n) : Int) - cl n W t S) 1000 = sumT (fun _ => 0) 1000 := sumT_congr _ (fun t _ => by rw [cl_full (full_of_nodup hn hS hl)]; omega)
    have z : ∀ m, sumT (fun _ => (0 : Int)) m = 0 := fun m => by induction m with | zero => rfl | succ m ih => simp [sumT, ih]
    rw [e, z]; omega
  | @step S T s r b a hl hc hT hTn hp ih =>
    have := ih hTn (fun i hi => by rcases (hT i).1 hi with rfl | hi; exact hc.lt; exact hS i hi)
    rw [this, show (fun t => (cl n W t (List.range n) : Int) - cl n W t T) = (fun t => (cl n W t (List.range n) : Int) - cl n W t (a :: S)) from funext fun t => by rw [cl_full (S' := a :: S) (fun v => (hT v).trans List.mem_cons.symm)]]
    obtain ⟨i, hi, hw⟩ := hc.edge
    have hbi := hb i a (hS i hi) hc.lt
    rw [hw] at hbi
    have e1 : ∀ t, t < 1000 → ((cl n W t (List.range n) : Int) - cl n W t S) = ((cl n W t (List.range n) : Int) - cl n W t (a :: S)) + (if (t : Int) < b then 1 else 0) := by
      intro t _
      by_cases hlt : (t : Int) < b
      · rw [if_pos hlt, cl_more hsym hc.lt hc.out hS (fun i j hi hj hjn => by have := hc.least i j hi hj hjn; omega)]
        push_cast; omega
      · rw [if_neg hlt, cl_same hc.lt hi (hS i hi) (by rw [hw]; omega)]
        omega
    rw [sumT_congr 1000 e1, sumT_add, sumT_above b hbi.1 1000, if_pos (by omega)]
    omega

/-- The sum is one and the same, whichever least edges are taken. -/
theorem Prim.unique (hsym : ∀ i j, i < n → j < n → W i j = W j i) (hb : ∀ i j, i < n → j < n → 0 ≤ W i j ∧ W i j ≤ 1000) {S S' : List Nat} {s r r' : Int} (h : Prim n W S s r) (h' : Prim n W S' s r') (hn : S.Nodup) (hS : ∀ i, i ∈ S → i < n) (hn' : S'.Nodup) (he : ∀ i, i ∈ S ↔ i ∈ S') : r = r' := by
  rw [h.value hsym hb hn hS, h'.value hsym hb hn' (fun i hi => hS i ((he i).2 hi))]
  congr 2
  funext t
  rw [cl_full he]

def pathSum (W : Nat → Nat → Int) : List Nat → Int
  | [] => 0
  | [_] => 0
  | a :: b :: r => W a b + pathSum W (b :: r)
theorem path_ge (hb : ∀ i j, i < n → j < n → 0 ≤ W i j ∧ W i j ≤ 1000) : ∀ (r : List Nat) (a : Nat) (S : List Nat), a ∈ S → (∀ i, i ∈ S → i < n) → (∀ i, i ∈ r → i < n) →
    sumT (fun t => (cl n W t (r.reverse ++ S) : Int) - cl n W t S) 1000 ≤ pathSum W (a :: r)
  | [], a, S, ha, hS, hr => by
    have z : ∀ m, sumT (fun _ => (0 : Int)) m = 0 := fun m => by induction m with | zero => rfl | succ m ih => simp [sumT, ih]
    rw [sumT_congr (g := fun _ => 0) 1000 (fun t _ => by simp), z]
    simp [pathSum]
  | b :: r, a, S, ha, hS, hr => by
    have hbn := hr b (by simp)
    have ih := path_ge hb r b (b :: S) (by simp) (fun i hi => by rcases List.mem_cons.1 hi with rfl | hi; exact hbn; exact hS i hi) (fun i hi => hr i (by simp [hi]))
    have hw := hb a b (hS a ha) hbn
    have e1 : ∀ t, t < 1000 → (cl n W t ((b :: r).reverse ++ S) : Int) - cl n W t S ≤ ((cl n W t (r.reverse ++ b :: S) : Int) - cl n W t (b :: S)) + (if (t : Int) < W a b then 1 else 0) := by
      intro t _
      rw [show (b :: r).reverse ++ S = r.reverse ++ b :: S by simp]
      by_cases hlt : (t : Int) < W a b
      · rw [if_pos hlt]
        have := cl_le (W := W) (t := t) (S := S) hbn
        omega
      · rw [if_neg hlt, cl_same (W := W) (t := t) hbn ha (hS a ha) (by omega)]
        omega
    have := sumT_le 1000 e1
    rw [sumT_add, sumT_above _ hw.1 1000, if_pos (by omega)] at this
    simp only [pathSum]
    omega

/-! ### a scan for the least edge -/
def J (n : Nat) (W : Nat → Nat → Int) (S : List Nat) (Sc : Nat → Nat → Prop) (b a : Int) : Prop :=
  (b < 0 ∧ ∀ i j, i ∈ S → Sc i j → j < n → j ∈ S) ∨ (∃ a' : Nat, a = a' ∧ a' ∉ S ∧ a' < n ∧ 0 ≤ b ∧ (∃ i, i ∈ S ∧ W i a' = b) ∧ ∀ i j, i ∈ S → Sc i j → j < n → j ∉ S → b ≤ W i j)
theorem J.skip {S : List Nat} {Sc Sc' : Nat → Nat → Prop} {b a : Int} (h : J n W S Sc b a) (hnew : ∀ i j, i ∈ S → Sc' i j → j < n → Sc i j ∨ j ∈ S ∨ (0 ≤ b ∧ b ≤ W i j)) : J n W S Sc' b a := by
  rcases h with ⟨h0, h1⟩ | ⟨a', e, h1, h2, h3, h4, h5⟩
  · refine .inl ⟨h0, fun i j hi hj hn => ?_⟩
    rcases hnew i j hi hj hn with h | h | h
    · exact h1 i j hi h hn
    · exact h
    · omega
  · refine .inr ⟨a', e, h1, h2, h3, h4, fun i j hi hj hn ho => ?_⟩
    rcases hnew i j hi hj hn with h | h | h
    · exact h5 i j hi h hn ho
    · exact absurd h ho
    · exact h.2
theorem J.take {S : List Nat} {Sc Sc' : Nat → Nat → Prop} {b a : Int} (h : J n W S Sc b a) {i j : Nat} (hi : i ∈ S) (hj : j ∉ S) (hn : j < n) (h0 : 0 ≤ W i j) (hlt : b < 0 ∨ W i j < b)
    (hnew : ∀ i' j', i' ∈ S → Sc' i' j' → j' < n → Sc i' j' ∨ j' ∈ S ∨ (i' = i ∧ j' = j)) : J n W S Sc' (W i j) j := by
  refine .inr ⟨j, rfl, hj, hn, h0, ⟨i, hi, rfl⟩, fun i' j' hi' hs hn' ho => ?_⟩
  rcases hnew i' j' hi' hs hn' with h' | h' | ⟨rfl, rfl⟩
  · rcases h with ⟨_, h1⟩ | ⟨a', _, _, _, h3, _, h5⟩
    · exact absurd (h1 i' j' hi' h' hn') ho
    · have := h5 i' j' hi' h' hn' ho
      rcases hlt with hlt | hlt <;> omega
  · exact absurd h' ho
  · exact Int.le_refl _
theorem exists_out {S : List Nat} (hn : S.Nodup) (hS : ∀ i, i ∈ S → i < n) (hl : S.length < n) : ∃ j, j < n ∧ j ∉ S := by
  by_cases h : ∃ j, j < n ∧ j ∉ S
  · exact h
  · have h1 : ∀ r, r ∈ S ↔ r ∈ List.range n := fun r => ⟨fun hr => List.mem_range.2 (hS r hr), fun hr => by
      by_cases hr' : r ∈ S
      · exact hr'
      · exact absurd ⟨r, List.mem_range.1 hr, hr'⟩ h⟩
    have h2 := cnt_nodup hn hS
    have h3 := cnt_nodup (B := n) (L := List.range n) List.nodup_range (fun i hi => List.mem_range.1 hi)
    rw [cnt_congr h1, h3] at h2
    simp at h2; omega
theorem J.final {S : List Nat} {Sc : Nat → Nat → Prop} {b a : Int} (h : J n W S Sc b a) (hn : S.Nodup) (hS : ∀ i, i ∈ S → i < n) (hl : S.length < n) (hne : ∃ i, i ∈ S) (hall : ∀ i j, i ∈ S → j < n → Sc i j) : ∃ a' : Nat, a = a' ∧ MinCross n W S b a' := by
  obtain ⟨j, hj, ho⟩ := exists_out hn hS hl
  obtain ⟨i, hi⟩ := hne
  rcases h with ⟨_, h1⟩ | ⟨a', e, h1, h2, h3, h4, h5⟩
  · exact absurd (h1 i j hi (hall i j hi hj) hj) ho
  · exact ⟨a', e, ⟨h1, h2, h4, fun i j hi hj hn => h5 i j hi (hall i j hi hn) hn hj⟩⟩
end
end Go.Proofs.Ytaapbnhggfmlpaa.A
