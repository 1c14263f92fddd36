/- The law FnOrders holds for every input: the best order has its coupling with the best shields, no drawn order has a lesser one with as many nor comes before it with the same, and without shields it is at least the tree bound. -/
import Derived.Test.YtaapbnhggfmlpaaOrdersQ6
import Derived.Test.YtaapbnhggfmlpaaOrdersQ3
import Derived.Test.YtaapbnhggfmlpaaOrdersQ5
import Derived.Test.YtaapbnhggfmlpaaOrdersQ4
import Derived.Test.YtaapbnhggfmlpaaRows
import Derived.WalkKit
import Derived.ProofKit
import Derived.OpenShut
import Derived.ShutString
import Derived.ChangeOld
import Derived.Below
import Derived.SizedLaws
import Derived.Test.YtaapbnhggfmlpaaWSized
section
set_option linter.unusedVariables false
namespace Go.Proofs.Ytaapbnhggfmlpaa.B
open Go.RowKit Go.Proofs.Ytaapbnhggfmlpaa.P Go.Proofs.YtaapbnhggfmlpaaW.PrintWords Go.Proofs.YtaapbnhggfmlpaaW.PrintLast Go.Proofs.YtaapbnhggfmlpaaW.PrintMore Go.Proofs.Ytaapbnhggfmlpaa.A
/-- An order as a list of wires. -/
structure OrdN (n : Nat) (os : List Nat) : Prop where
  len : os.length = n
  nd : os.Nodup
  lt : ∀ v ∈ os, v < n
theorem up_getD_any (S : List Nat) (i : Nat) : (up S).getD i 0 = ((S.getD i 0 : Nat) : Int) := by
  unfold up
  simp only [List.getD_eq_getElem?_getD, List.getElem?_map]
  cases S[i]? <;> simp
theorem Ord.nat {n : Nat} {xs : List Int} (h : Ord n xs) : ∃ os, xs = up os ∧ OrdN n os := by
  have hx : xs = up (xs.map Int.toNat) := by
    unfold up
    rw [List.map_map]
    refine (List.map_id' _).symm.trans (List.map_congr_left fun x hx => ?_)
    obtain ⟨j, hj, rfl⟩ := List.getElem_of_mem hx
    have := (h.bd j (by rw [← h.len]; exact hj)).1
    simp only [List.getD_eq_getElem?_getD, List.getElem?_eq_getElem hj, Option.getD_some] at this
    simp only [Function.comp]
    omega
  refine ⟨xs.map Int.toNat, hx, by simp [h.len], ?_, ?_⟩
  · unfold List.Nodup
    rw [List.pairwise_iff_getElem]
    intro i j hi0 hj0 hij
    simp only [List.length_map] at hi0 hj0
    have hj := hj0
    rw [List.getElem_map, List.getElem_map]
    intro e
    have hi' : i < xs.length := hi0
    have b1 := (h.bd i (by rw [← h.len]; exact hi')).1
    have b2 := (h.bd j (by rw [← h.len]; exact hj)).1
    have := h.inj i j (by rw [← h.len]; exact hi') (by rw [← h.len]; exact hj) (by
      simp only [List.getD_eq_getElem?_getD, List.getElem?_eq_getElem hj, List.getElem?_eq_getElem hi', Option.getD_some] at b1 b2 ⊢
      omega)
    omega
  · intro v hv
    obtain ⟨x, hx, rfl⟩ := List.mem_map.1 hv
    obtain ⟨j, hj, rfl⟩ := List.getElem_of_mem hx
    have := h.bd j (by rw [← h.len]; exact hj)
    simp only [List.getD_eq_getElem?_getD, List.getElem?_eq_getElem hj, Option.getD_some] at this
    omega
theorem OrdN.ord {n : Nat} {os : List Nat} (h : OrdN n os) : Ord n (up os) := by
  refine ⟨by simp [up, h.len], fun j hj => ?_, fun i j hi hj e => ?_⟩
  · rw [up_getD_any]
    have := h.lt (os.getD j 0) (getD_mem (by rw [h.len]; exact hj))
    omega
  · rw [up_getD_any, up_getD_any] at e
    have hi' : i < os.length := by rw [h.len]; exact hi
    have hj' : j < os.length := by rw [h.len]; exact hj
    have e2 : os.getD i 0 = os.getD j 0 := by omega
    simp only [List.getD_eq_getElem?_getD, List.getElem?_eq_getElem hj', List.getElem?_eq_getElem hi', Option.getD_some] at e2
    rcases Nat.lt_trichotomy i j with c | c | c
    · exact absurd e2 (List.pairwise_iff_getElem.1 h.nd i j hi' hj' c)
    · exact c
    · exact absurd e2.symm (List.pairwise_iff_getElem.1 h.nd j i hj' hi' c)
theorem index0 (xs : List Int) (a : Int) (hl : xs.length ≤ 1048576) : ∀ (d k i : Nat), xs.length - i = d → d < k → i ≤ xs.length → ∃ r, slices_Index_int64_int64.l0 k xs a xs.length i = some r ∧ (0 ≤ r ↔ a ∈ xs.drop i) := by
  intro d
  induction d with
  | zero =>
    intro k i hd hk hi
    obtain ⟨k, rfl⟩ : ∃ m, k = m + 1 := ⟨k - 1, by omega⟩
    simp only [slices_Index_int64_int64.l0]
    rw [if_neg (by omega)]
    refine ⟨-1, rfl, ?_⟩
    rw [List.drop_eq_nil_of_le (by omega)]
    simp
  | succ d ih =>
    intro k i hd hk hi
    obtain ⟨k, rfl⟩ : ∃ m, k = m + 1 := ⟨k - 1, by omega⟩
    simp only [slices_Index_int64_int64.l0]
    have hlt : i < xs.length := by omega
    rw [if_pos (by omega), if_pos (by omega), if_pos (by omega), rd_nat]
    rw [List.drop_eq_getElem_cons hlt]
    have e : xs.getD i 0 = xs[i] := by simp [List.getD_eq_getElem?_getD, hlt]
    rw [e]
    by_cases c : a = xs[i]
    · rw [if_pos c]
      exact ⟨i, rfl, ⟨fun _ => by rw [List.mem_cons]; exact .inl c, fun _ => by omega⟩⟩
    · rw [if_neg c, w64s hlt (by omega)]
      obtain ⟨r, hr, h⟩ := ih k (i + 1) (by omega) (by omega) (by omega)
      exact ⟨r, hr, h.trans ⟨fun h => List.mem_cons_of_mem _ h, fun h => (List.mem_cons.1 h).resolve_left c⟩⟩
theorem contains (xs : List Int) (a : Int) (hl : xs.length ≤ 1048576) (k : Nat) (hk : xs.length < k) : slices_Contains_int64_int64.f k xs a = some (decide (a ∈ xs)) := by
  unfold slices_Contains_int64_int64.f slices_Index_int64_int64.f
  obtain ⟨r, hr, h⟩ := index0 xs a hl xs.length k 0 rfl hk (by omega)
  rw [show (0 : Int) = ((0 : Nat) : Int) from rfl, hr]
  rw [List.drop_zero] at h
  simp only [Option.bind_some]
  congr 1
  rw [decide_eq_decide]
  exact h
theorem shl_nat {i : Nat} (hi : i ≤ 9) : shl .i64 1 (i : Int) = wrap64 (2 ^ i) := by
  unfold shl
  rw [i64_w, Int.toNat_natCast, show IntKind.i64.bits = 64 from rfl, Nat.min_eq_left (by omega), Int.one_mul]
theorem shr_nat (D : Int) {i : Nat} (hi : i ≤ 9) : shr .i64 D (i : Int) = D / 2 ^ i := by
  unfold shr
  rw [Int.toNat_natCast, show IntKind.i64.bits = 64 from rfl, Nat.min_eq_left (by omega)]
section
variable {l : List (List Int)} (V : Valid l)
include V
open Classical in
theorem orderOk0 (xs : List Int) (hl : xs.length ≤ 1048576) : ∀ (d i k D : Nat), xs.length - i = d → i ≤ xs.length → d + 260 ≤ k → D < 2 ^ l.length → (∀ v : Nat, D.testBit v = true ↔ ∃ j, j < i ∧ xs.getD j 0 = v) →
    (∀ j, j < i → 0 ≤ xs.getD j 0 ∧ xs.getD j 0 < l.length) → (∀ a b, a < i → b < i → xs.getD a 0 = xs.getD b 0 → a = b) → ∃ b, impl_orderOk.l0 k xs D xs xs.length i l = some b ∧ (b = true ↔ Ord l.length xs) := by
  have hn := V.le
  have h9 := pow9 hn
  intro d
  induction d with
  | zero =>
    intro i k D hd hi hk hD hb hr hj
    obtain ⟨k, rfl⟩ : ∃ m, k = m + 1 := ⟨k - 1, by omega⟩
    obtain rfl : i = xs.length := by omega
    simp only [impl_orderOk.l0]
    rw [if_neg (by omega), validBundle l k (by omega), decide_eq_true V]
    simp only [Option.bind_some, if_true]
    refine ⟨_, rfl, ?_⟩
    rw [beq_iff_eq]
    constructor
    · intro e
      have e' : xs.length = l.length := by omega
      exact ⟨e', fun j hj' => hr j (by omega), fun a b ha hb' => hj a b (by omega) (by omega)⟩
    · intro h
      have := h.len
      omega
  | succ d ih =>
    intro i k D hd hi hk hD hb hr hj
    obtain ⟨k, rfl⟩ : ∃ m, k = m + 1 := ⟨k - 1, by omega⟩
    have hlt : i < xs.length := by omega
    simp only [impl_orderOk.l0]
    rw [if_pos (by omega), if_pos (by omega), if_pos (by omega), in_impl, rd_nat, w64 (x := (l.length : Int) - 1) (by omega)]
    simp only [Option.bind_some]
    by_cases c : xs.getD i 0 ≥ 0 ∧ xs.getD i 0 ≤ (l.length : Int) - 1
    · obtain ⟨v, hv⟩ : ∃ v : Nat, xs.getD i 0 = v := ⟨(xs.getD i 0).toNat, by omega⟩
      rw [hv] at c ⊢
      rw [decide_eq_true c]
      simp only [if_true]
      have hvn : v < l.length := by omega
      rw [if_pos (by omega), shr_nat _ (by omega), shl_nat (by omega)]
      by_cases ct : D.testBit v = true
      · rw [if_pos ((tst_nat D v (by omega)).2 ct)]
        refine ⟨false, rfl, ?_⟩
        constructor
        · intro h; cases h
        · intro h
          obtain ⟨j, hj1, hj2⟩ := (hb v).1 ct
          have hlen := h.len
          have := h.inj j i (by omega) (by omega) (by rw [hj2, hv])
          omega
      · rw [if_neg (fun h => ct ((tst_nat D v (by omega)).1 h)), show Go.bits .or .i64 (D : Int) (wrap64 (2 ^ v)) = setb D v from rfl, setb_nat D v (by omega) (by omega), w64s hlt (by omega)]
        refine ih (i + 1) k (D ||| 2 ^ v) (by omega) (by omega) (by omega) (or_lt hD hvn) ?_ ?_ ?_
        · intro u
          rw [testBit_or_pow]
          constructor
          · intro h
            rcases Bool.or_eq_true _ _ |>.mp h with h | h
            · obtain ⟨j, a, b⟩ := (hb u).1 h
              exact ⟨j, by omega, b⟩
            · exact ⟨i, by omega, by rw [hv, of_decide_eq_true h]⟩
          · rintro ⟨j, a, b⟩
            by_cases e : j = i
            · subst e
              rw [hv] at b
              have : v = u := by omega
              simp [this]
            · rw [(hb u).2 ⟨j, by omega, b⟩]
              rfl
        · intro j hj'
          by_cases e : j = i
          · subst e
            rw [hv]
            omega
          · exact hr j (by omega)
        · intro a b ha hb' e
          by_cases ea : a = i
          · subst ea
            by_cases eb : b = a
            · exact eb.symm
            · exact absurd ((hb v).2 ⟨b, by omega, by rw [← e, hv]⟩) ct
          · by_cases eb : b = i
            · subst eb
              exact absurd ((hb v).2 ⟨a, by omega, by rw [e, hv]⟩) ct
            · exact hj a b (by omega) (by omega) e
    · rw [decide_eq_false c]
      simp only [Bool.false_eq_true, if_false]
      refine ⟨false, rfl, ?_⟩
      constructor
      · intro h; cases h
      · intro h
        have hlen := h.len
        have := h.bd i (by omega)
        omega
theorem orderOk (xs : List Int) (hl : xs.length ≤ 1048576) (k : Nat) (hk : xs.length + 260 ≤ k) : ∃ b, impl_orderOk.f k l xs = some b ∧ (b = true ↔ Ord l.length xs) := by
  unfold impl_orderOk.f
  exact orderOk0 V xs hl xs.length 0 k 0 (by omega) (by omega) (by omega) (Nat.two_pow_pos _) (fun v => by simp) (fun j h => by omega) (fun a b h => by omega)
/-- Shields that rise between the wires. -/
def Rise (n : Nat) (sh : List Int) : Prop := ∀ i, i < sh.length → 1 ≤ sh.getD i 0 ∧ sh.getD i 0 < n ∧ (0 < i → sh.getD (i - 1) 0 < sh.getD i 0)
theorem isLayout0 (xs sh : List Int) (hl : xs.length ≤ 1048576) (hs : sh.length ≤ 1048576) (hr : Rise l.length sh) : ∀ (d i k : Nat), sh.length - i = d → i ≤ sh.length → 2 * d + xs.length + 262 ≤ k → ∃ b, impl_IsLayout.l0 k xs sh sh sh.length i l = some b ∧ (b = true ↔ Ord l.length xs) := by
  have hn := V.le
  intro d
  induction d with
  | zero =>
    intro i k hd hi hk
    obtain ⟨k, rfl⟩ : ∃ m, k = m + 1 := ⟨k - 1, by omega⟩
    simp only [impl_IsLayout.l0]
    rw [if_neg (by omega)]
    obtain ⟨b, hb, h⟩ := orderOk V xs hl k (by omega)
    rw [hb]
    exact ⟨b, rfl, h⟩
  | succ d ih =>
    intro i k hd hi hk
    obtain ⟨k, rfl⟩ : ∃ m, k = m + 2 := ⟨k - 2, by omega⟩
    have hlt : i < sh.length := by omega
    obtain ⟨h1, h2, h3⟩ := hr i hlt
    simp only [impl_IsLayout.l0, impl_IsLayout.j1]
    rw [if_pos (by omega), if_pos (by omega), if_pos (by omega), in_impl, rd_nat, w64 (x := (l.length : Int) - 1) (by omega), decide_eq_true (by omega)]
    simp only [Option.bind_some, if_true]
    by_cases c : (i : Int) > 0
    · rw [if_pos c, w64 (x := (i : Int) - 1) (by omega), if_pos (by omega), if_pos (by omega), show (i : Int) - 1 = ((i - 1 : Nat) : Int) by omega, rd_nat, decide_eq_false (by have := h3 (by omega); omega)]
      simp only [Bool.false_eq_true, if_false]
      rw [w64s hlt (by omega)]
      exact ih (i + 1) k (by omega) (by omega) (by omega)
    · rw [if_neg c]
      simp only [Bool.false_eq_true, if_false]
      rw [w64s hlt (by omega)]
      exact ih (i + 1) k (by omega) (by omega) (by omega)
theorem isLayout (xs sh : List Int) (hl : xs.length ≤ 1048576) (hs : sh.length ≤ 1048576) (hr : Rise l.length sh) (k : Nat) (hk : 2 * sh.length + xs.length + 262 ≤ k) : ∃ b, impl_IsLayout.f k l xs sh = some b ∧ (b = true ↔ Ord l.length xs) := by
  unfold impl_IsLayout.f
  exact isLayout0 V xs sh hl hs hr sh.length 0 k (by omega) (by omega) (by omega)
end
/-- The wires that follow, each with whether a shield stands ahead of it. -/
def fl (sh : List Int) : Nat → List Nat → List (Nat × Bool)
  | _, [] => []
  | j, i :: r => (i, decide ((j : Int) ∈ sh)) :: fl sh (j + 1) r
theorem fl_fst (sh : List Int) : ∀ (r : List Nat) (j : Nat), (fl sh j r).map Prod.fst = r
  | [], _ => rfl
  | i :: r, j => by simp [fl, fl_fst sh r (j + 1)]
theorem fl_nil : ∀ (r : List Nat) (j : Nat), fl [] j r = r.map fun i => (i, false)
  | [], _ => rfl
  | i :: r, j => by simp [fl, fl_nil r (j + 1)]
theorem weight {l : List (List Int)} (V : Valid l) {os : List Nat} (hlt : ∀ v ∈ os, v < l.length) (i : Nat) (hi : i + 1 < os.length) (hm : os.length ≤ 1048576) : impl_Bundle_weight.f l (up os) i = some (Wt l (os.getD i 0) (os.getD (i + 1) 0)) := by
  have a1 := hlt (os.getD i 0) (getD_mem (by omega))
  have a2 := hlt (os.getD (i + 1) 0) (getD_mem (by omega))
  have hr := V.row (os.getD i 0) a1
  unfold impl_Bundle_weight.f
  rw [if_pos (by omega), if_pos (by rw [up_length]; omega), rd_nat, up_getD_any, if_pos (by omega), if_pos (by omega), w64 (by omega), show (i : Int) + 1 = ((i + 1 : Nat) : Int) by omega, if_pos (by omega), if_pos (by rw [up_length]; omega), rd_nat, up_getD_any, if_pos (by omega), rdL_nat, hr, if_pos (by omega), rd_nat]
  rfl
theorem coupling0 {l : List (List Int)} (V : Valid l) (sh : List Int) (hs : sh.length ≤ 1048576) (os : List Nat) (hlt : ∀ v ∈ os, v < l.length) (hm : os.length ≤ 9) : ∀ (rest : List Nat) (a i k : Nat) (acc : Int), os.drop i = a :: rest → rest.length + sh.length + 2 ≤ k → 0 ≤ acc → acc ≤ 1000 * i →
    impl_Bundle_coupling.l0 k (up os) sh acc (wrap64 ((up os).length - 1)) i l = some (acc + pathC (Wt l) a (fl sh (i + 1) rest)) := by
  intro rest
  induction rest with
  | nil =>
    intro a i k acc hd hk h0 h1
    obtain ⟨k, rfl⟩ : ∃ m, k = m + 1 := ⟨k - 1, by omega⟩
    have hlen : os.length = i + 1 := by
      have := congrArg List.length hd
      simp at this
      omega
    simp only [impl_Bundle_coupling.l0]
    rw [up_length, w64 (by omega), if_neg (by omega)]
    simp [fl, pathC]
  | cons b rest ih =>
    intro a i k acc hd hk h0 h1
    obtain ⟨k, rfl⟩ : ∃ m, k = m + 1 := ⟨k - 1, by omega⟩
    have hlen : i + 1 < os.length := by
      have := congrArg List.length hd
      simp at this
      omega
    have hd' : os.drop (i + 1) = b :: rest := by
      rw [← List.drop_drop, hd]
      rfl
    have ea : os.getD i 0 = a := by
      have := congrArg (fun x => x.getD 0 0) hd
      simpa [List.getD_eq_getElem?_getD] using this
    have eb : os.getD (i + 1) 0 = b := by
      have := congrArg (fun x => x.getD 0 0) hd'
      simpa [List.getD_eq_getElem?_getD] using this
    have hb := V.bound a b (by rw [← ea]; exact hlt _ (getD_mem (by omega))) (by rw [← eb]; exact hlt _ (getD_mem (by omega)))
    simp only [List.length_cons] at hk
    have e1 : ((i : Int) + 1) = ((i + 1 : Nat) : Int) := by omega
    conv => lhs; unfold impl_Bundle_coupling.l0
    rw [if_pos (by rw [up_length, w64 (by omega)]; omega), w64 (x := (i : Int) + 1) (by omega), e1, contains sh _ hs k (by omega)]
    simp only [Option.bind_some]
    by_cases c : ((i + 1 : Nat) : Int) ∈ sh
    · rw [decide_eq_true c]
      simp only [if_true]
      rw [ih b (i + 1) k acc hd' (by omega) h0 (by omega)]
      simp only [fl, pathC]
      rw [decide_eq_true c]
      simp
    · rw [decide_eq_false c]
      simp only [Bool.false_eq_true, if_false]
      rw [weight V hlt i hlen (by omega), ea, eb]
      simp only [Option.bind_some]
      rw [w64 (by omega), ih b (i + 1) k (acc + Wt l a b) hd' (by omega) (by omega) (by omega)]
      simp only [fl, pathC]
      rw [decide_eq_false c]
      simp only [Bool.false_eq_true, if_false, Option.some.injEq]
      omega
theorem coupling {l : List (List Int)} (V : Valid l) (sh : List Int) (hs : sh.length ≤ 1048576) {a : Nat} {rest : List Nat} (hO : OrdN l.length (a :: rest)) (k : Nat) (hk : sh.length + 20 ≤ k) :
    impl_Bundle_coupling.f k l (up (a :: rest)) sh = some (pathC (Wt l) a (fl sh 1 rest)) := by
  unfold impl_Bundle_coupling.f
  have hlen := hO.len
  have hn := V.le
  simp only [List.length_cons] at hlen
  have := coupling0 V sh hs (a :: rest) hO.lt (by simp; omega) rest a 0 k 0 rfl (by omega) (by omega) (by omega)
  simpa using this
theorem couplingOf {l : List (List Int)} (V : Valid l) (sh : List Int) (hs : sh.length ≤ 1000) (hr : Rise l.length sh) {a : Nat} {rest : List Nat} (hO : OrdN l.length (a :: rest)) (k : Nat) (hk : 3000 ≤ k) :
    impl_CouplingOf.f k l (up (a :: rest)) sh = some (pathC (Wt l) a (fl sh 1 rest), true) := by
  unfold impl_CouplingOf.f
  have hlen := hO.len
  have hn := V.le
  obtain ⟨b, hb, h⟩ := isLayout V (up (a :: rest)) sh (by rw [up_length]; omega) (by omega) hr k (by rw [up_length]; omega)
  rw [hb, h.2 hO.ord]
  simp only [Option.bind_some, if_true]
  rw [coupling V sh (by omega) hO k (by omega)]
  rfl
theorem couplingOf_no {l : List (List Int)} (V : Valid l) (sh : List Int) (hs : sh.length ≤ 1000) (hr : Rise l.length sh) {xs : List Int} (hl : xs.length ≤ 1000) (hO : ¬ Ord l.length xs) (k : Nat) (hk : 4000 ≤ k) :
    impl_CouplingOf.f k l xs sh = some (0, false) := by
  unfold impl_CouplingOf.f
  obtain ⟨b, hb, h⟩ := isLayout V xs sh (by omega) (by omega) hr k (by omega)
  have : b = false := by
    cases b
    · rfl
    · exact absurd (h.1 rfl) hO
  rw [hb, this]
  simp
theorem rise_nil (n : Nat) : Rise n [] := fun i h => absurd h (by simp)
end Go.Proofs.Ytaapbnhggfmlpaa.B
end
section
set_option linter.unusedVariables false
set_option linter.unusedSimpArgs false
namespace Go.Proofs.Ytaapbnhggfmlpaa.P
open Go.RowKit Go.Proofs.YtaapbnhggfmlpaaW.PrintWords Go.Proofs.YtaapbnhggfmlpaaW.PrintLast Go.Proofs.YtaapbnhggfmlpaaW.PrintMore
open Go.Proofs.Ytaapbnhggfmlpaa.M Go.Proofs.Ytaapbnhggfmlpaa.A
open Go.Proofs.Ytaapbnhggfmlpaa.B (Valid validBundle in_impl)
def impl_BestBetween.f (l0_0 : List (List Int)) (a1 : Int) (a2 : Int) : Option (List Int × Int × Bool) :=
  (impl_ValidBundle.f 300 l0_0).bind fun v => if v = true ∧ (0 ≤ a1 ∧ a1 ≤ (l0_0.length : Int) - 1) ∧ (0 ≤ a2 ∧ a2 ≤ (l0_0.length : Int) - 1) ∧ (a1 = a2 ↔ (l0_0.length : Int) - 1 = 0) then some (orderF l0_0 a2 0 [a1.toNat]) else some ([], 0, false)
set_option maxHeartbeats 2000000 in
set_option maxRecDepth 100000 in
theorem impl_BestBetween.calls (A0_0 : Option Addr) (c0_0 : Nat) (l0_0 : List (List Int)) (a1 : Int) (a2 : Int) (r1 : List Int) (r2 : Int) (r3 : Bool) (w : World) (hr0_0 : Kd.C (Kd.slice 2 (Kd.int .i64)) w A0_0 l0_0.length l0_0) (hc0_0 : l0_0.length ≤ c0_0) (h : impl_BestBetween.f l0_0 a1 a2 = some (r1, r2, r3)) :
    Calls Try.prog 38 #[.agg #[.slice A0_0 l0_0.length c0_0], .int .i64 a1, .int .i64 a2] w fun e w' => ∃ v0_ : Value, e = .returned (.tuple #[v0_, .int .i64 r2, .bool r3]) ∧ Kd.R (Kd.int .i64) 2 w' w.heap.size (fun _ => True) v0_ r1 ∧ Below w.heap.size w w' := by
  obtain ⟨v, hv0, h⟩ := Option.bind_eq_some_iff.mp h
  have hv := Aside0.mk hv0
  have hVd : v = true → Valid l0_0 := fun e => by
    have := (validBundle l0_0 300 (by omega)).symm.trans hv0
    subst e
    simpa using this
  clear hv0
  have HR := Aside0.mk hr0_0
  have HC := Aside0.mk hc0_0
  have hmx := Kd.C_max hr0_0
  clear hr0_0 hc0_0
  have hu44 := Try.underlying44
  have HB := Aside0.mk (Below.refl w.heap.size w)
  cases v with
  | false =>
    rw [if_neg (fun h => by simp at h)] at h
    cases h
    clear hVd
    go_enter Try.func38, Try.ntmps38
    go_wp2_with (first
      | ((with_reducible refine gate_dst (N := 3) rfl ?_); refine box_event ?hg (N := 3) ?hd (cs := #[.slice A0_0 l0_0.length c0_0]) (t := 44) ?hr ?_; (case hd => rfl); (case hg => rfl); (case hr => first | (go_simp; done) | (go_simp; rfl)); intro gb hg w2 hbox hb; have n1_ := Aside0.mk (below_step HB.out hb); have n2_ := Aside0.mk hbox; clear HB hb hbox hg; have HB := n1_; have BK := n2_; clear n1_ n2_; have hcz := (blk_cell BK.out 0).trans rfl)
      | (go_at_call 54; (with_reducible refine (impl_ValidBundle.calls 300 _ _ l0_0 false _ ?s1a ?s1b hv.out).mono ?_); (case s1a => exact Kd.C_below HR.out HB.out); (case s1b => exact HC.out); rintro e w3 ⟨rfl, hb⟩; have n1_ := Aside0.mk (below_step HB.out hb); have n2_ := Aside0.mk (blk_below BK.out hb); clear HB hb BK hcz; have HB := n1_; have BK := n2_; clear n1_ n2_))
    go_ret3
    exact ⟨_, rfl, Kd.R_nil _ _ _ _ _, HB.out⟩
  | true =>
    have V := hVd rfl
    have n0 : 0 < l0_0.length := V.pos
    have n9 := V.le
    have HV := Aside0.mk V
    clear hVd V hmx
    by_cases h1 : 0 ≤ a1 ∧ a1 ≤ (l0_0.length : Int) - 1
    · have HIN1 : Aside0 (impl_in.f a1 0 ((l0_0.length : Int) - 1) = some true) := ⟨by rw [in_impl, decide_eq_true (by omega)]⟩
      by_cases h2 : 0 ≤ a2 ∧ a2 ≤ (l0_0.length : Int) - 1
      · have HIN2 : Aside0 (impl_in.f a2 0 ((l0_0.length : Int) - 1) = some true) := ⟨by rw [in_impl, decide_eq_true (by omega)]⟩
        by_cases h3 : a1 = a2 ↔ (l0_0.length : Int) - 1 = 0
        · rw [if_pos ⟨rfl, h1, h2, h3⟩] at h
          have HH := Aside0.mk (Option.some.inj h)
          clear h
          have hq : (a1 == a2) = ((l0_0.length : Int) - 1 == 0) := by
            rw [Bool.eq_iff_iff, beq_iff_eq, beq_iff_eq]
            exact h3
          have hne : ((a1 == a2) == ((l0_0.length : Int) - 1 == 0)) = true := by rw [hq]; simp
          clear hq h3
          obtain ⟨n, hn1, rfl⟩ : ∃ n : Nat, n < l0_0.length ∧ a1 = n := ⟨a1.toNat, by omega, by omega⟩
          simp only [Int.toNat_natCast] at HH
          obtain ⟨h20, h21⟩ := h2
          clear h1
          go_enter Try.func38, Try.ntmps38
          go_wp2_with (first
            | ((with_reducible refine gate_dst (N := 3) rfl ?_); refine box_event ?hg (N := 3) ?hd (cs := #[.slice A0_0 l0_0.length c0_0]) (t := 44) ?hr ?_; (case hd => rfl); (case hg => rfl); (case hr => first | (go_simp; done) | (go_simp; rfl)); intro gb hg w2 hbox hb; have n1_ := Aside0.mk (below_step HB.out hb); have n2_ := Aside0.mk hbox; clear HB hb hbox hg; have HB := n1_; have BK := n2_; clear n1_ n2_; have hcz := (blk_cell BK.out 0).trans rfl)
            | (go_at_call 54; (with_reducible refine (impl_ValidBundle.calls 300 _ _ l0_0 true _ ?s2a ?s2b hv.out).mono ?_); (case s2a => exact Kd.C_below HR.out HB.out); (case s2b => exact HC.out); rintro e w3 ⟨rfl, hb⟩; have n1_ := Aside0.mk (below_step HB.out hb); have n2_ := Aside0.mk (blk_below BK.out hb); clear HB hb BK hcz; have HB := n1_; have BK := n2_; clear n1_ n2_)
            | (go_at_call 64; (with_reducible refine (impl_in.calls n 0 ((l0_0.length : Int) - 1) true _ HIN1.out).mono ?_); rintro e w4 ⟨rfl, hd⟩; have hb := hd.below; have n1_ := Aside0.mk (below_step HB.out hb); have n2_ := Aside0.mk (blk_below BK.out hb); clear HB hb BK hd; have HB := n1_; have BK := n2_; clear n1_ n2_)
            | (go_at_call 64; (with_reducible refine (impl_in.calls a2 0 ((l0_0.length : Int) - 1) true _ HIN2.out).mono ?_); rintro e w4b ⟨rfl, hd⟩; have hb := hd.below; have n1_ := Aside0.mk (below_step HB.out hb); have n2_ := Aside0.mk (blk_below BK.out hb); clear HB hb BK hd; have HB := n1_; have BK := n2_; clear n1_ n2_)
            | (refine wp_tmake _ rfl rfl ?_; intro gm w5 hgm hT hb; have HT5 := Aside0.mk hT; have NB := Aside0.mk (show gb ≠ gm ∧ w.heap.size ≤ gm from ⟨fun e => by have := blk_lt BK.out; omega, by have := HB.out.size; omega⟩); have n1_ := Aside0.mk (below_step HB.out hb); have n2_ := Aside0.mk (blk_below BK.out hb); clear HB BK hT hb hgm; have HB := n1_; have BK := n2_; clear n1_ n2_)
            | ((with_reducible refine gate_store (t := 113) (p := 10) rfl ?_); refine store_event (t := 113) (p := 10) (v := .tmp 40) (w1 := w5.alloc (.cells #[.pointer (some ⟨gb, 0, none⟩), .int .i64 a2, .map (some gm)] 113 (0, 0))) ?hg ?ho ?hn ?hr ?_; (case ho => rfl); (case hg => rfl); (case hn => rfl); (case hr => first | (go_simp; done) | (go_simp; rfl)); intro w6 hw;
               have hb : Below w5.heap.size w5 w6 := (by rw [hw]; exact (Below.refl _ _).alloc (Nat.le_refl _) _); have BP := Aside0.mk (show w6.heap[w5.heap.size]? = some (.cells #[.pointer (some ⟨gb, 0, none⟩), .int .i64 a2, .map (some gm)] 113 (0, 0)) by rw [hw]; exact blk_new _ _);
               have NP := Aside0.mk (show w5.heap.size ≠ gm from fun e => by have := HT5.out.lt; omega); have n1_ := Aside0.mk (below_step HB.out hb); have n2_ := Aside0.mk (blk_below BK.out hb); have n3_ := Aside0.mk (HT5.out.below hb); clear HB BK HT5 hb hw; have HB := n1_; have BK := n2_; have HT := n3_; clear n1_ n2_ n3_;
               have HPW := Aside0.mk (PW.mk (w0 := w) (c := c0_0) HB.out NB.out.2 NP.out NB.out.1 BP.out BK.out HR.out); have HM := Aside0.mk (Mem.start (l := l0_0) (fin := a2) HT.out))
            | ((with_reducible refine gate_dst (N := 42) rfl ?_); refine Kd.R_lit (Kd.int .i64) (w0 := w6) w6.heap.size 3 ?hg (N := 42) ?hd (xs := ([(n : Int)] : List Int)) (inner := [.int .i64 n]) (ok := fun _ => True) (okp := fun _ => True) ?hr ?hp (fun _ hk => hk) trivial (Below.refl _ _) (Nat.le_refl _) (by simp) ?_; (case hd => rfl); (case hg => rfl); (case hr => first | (go_simp; done) | (go_simp; rfl)); (case hp => exact (Reps.one (show Kd.M (Kd.int .i64) _ _ _ (n : Int) [.int .i64 n] from rfl) (Reps.none _ _))); intro v7 w7 ho hb hg_ hnew_; clear hg_ hnew_;
               have HO := Aside0.mk ho; have n1_ := Aside0.mk (HPW.out.below hb); have n2_ := Aside0.mk (HM.out.below hb); clear HPW HM ho hb BK BP HT HB; have HPW := n1_; have HM := n2_; clear n1_ n2_; obtain ⟨Ab, cb, e7, hle, cells, hcells⟩ := own_form HO.out (by simp) (n := 1) (by simp); subst e7; have HLE := Aside0.mk hle; have HCE := Aside0.mk hcells; clear hle hcells)
            | (go_at_call 89; (with_reducible refine (order_own w w5.heap.size gb gm A0_0 c0_0 l0_0 a2 0 Ab cb w6.heap.size 1 [n] cells w7 n9 n0 (rows_ HV.out) ?u1 ?u2 ?u3 HLE.out ?u4 HPW.out HM.out ?u5 HCE.out r1 r2 r3 HH.out).mono ?_); (case u1 => omega); (case u5 => exact HO.out); (case u2 => intro i h; simp at h; subst h; exact hn1); (case u3 => simp); (case u4 => simp);
               rintro e w8 ⟨v8, rfl, ho, hf⟩; have HO8 := Aside0.mk (Kd.R_lower ho HPW.out.bl.size); have HB8 := Aside0.mk (Fr.below HPW.out.bl hf HPW.out.bl.size (fun k e => by rw [e]; exact NB.out.2)); clear ho hf))
          go_ret3
          exact ⟨_, rfl, HO8.out, HB8.out⟩
        · rw [if_neg (fun h => h3 h.2.2.2)] at h
          cases h
          have hne : ((a1 == a2) == ((l0_0.length : Int) - 1 == 0)) = false := by
            rw [beq_eq_false_iff_ne]
            intro e
            rw [Bool.eq_iff_iff, beq_iff_eq, beq_iff_eq] at e
            exact h3 e
          clear h3
          obtain ⟨h10, h11⟩ := h1
          obtain ⟨h20, h21⟩ := h2
          go_enter Try.func38, Try.ntmps38
          go_wp2_with (first
            | ((with_reducible refine gate_dst (N := 3) rfl ?_); refine box_event ?hg (N := 3) ?hd (cs := #[.slice A0_0 l0_0.length c0_0]) (t := 44) ?hr ?_; (case hd => rfl); (case hg => rfl); (case hr => first | (go_simp; done) | (go_simp; rfl)); intro gb hg w2 hbox hb; have n1_ := Aside0.mk (below_step HB.out hb); have n2_ := Aside0.mk hbox; clear HB hb hbox hg; have HB := n1_; have BK := n2_; clear n1_ n2_; have hcz := (blk_cell BK.out 0).trans rfl)
            | (go_at_call 54; (with_reducible refine (impl_ValidBundle.calls 300 _ _ l0_0 true _ ?s3a ?s3b hv.out).mono ?_); (case s3a => exact Kd.C_below HR.out HB.out); (case s3b => exact HC.out); rintro e w3 ⟨rfl, hb⟩; have n1_ := Aside0.mk (below_step HB.out hb); have n2_ := Aside0.mk (blk_below BK.out hb); clear HB hb BK hcz; have HB := n1_; have BK := n2_; clear n1_ n2_)
            | (go_at_call 64; (with_reducible refine (impl_in.calls a1 0 ((l0_0.length : Int) - 1) true _ HIN1.out).mono ?_); rintro e w4 ⟨rfl, hd⟩; have hb := hd.below; have n1_ := Aside0.mk (below_step HB.out hb); have n2_ := Aside0.mk (blk_below BK.out hb); clear HB hb BK hd; have HB := n1_; have BK := n2_; clear n1_ n2_)
            | (go_at_call 64; (with_reducible refine (impl_in.calls a2 0 ((l0_0.length : Int) - 1) true _ HIN2.out).mono ?_); rintro e w4b ⟨rfl, hd⟩; have hb := hd.below; have n1_ := Aside0.mk (below_step HB.out hb); have n2_ := Aside0.mk (blk_below BK.out hb); clear HB hb BK hd; have HB := n1_; have BK := n2_; clear n1_ n2_))
          go_ret3
          exact ⟨_, rfl, Kd.R_nil _ _ _ _ _, HB.out⟩
      · rw [if_neg (fun h => h2 h.2.2.1)] at h
        cases h
        have HIN2 : Aside0 (impl_in.f a2 0 ((l0_0.length : Int) - 1) = some false) := ⟨by rw [in_impl, decide_eq_false (by omega)]⟩
        clear h1 h2
        go_enter Try.func38, Try.ntmps38
        go_wp2_with (first
          | ((with_reducible refine gate_dst (N := 3) rfl ?_); refine box_event ?hg (N := 3) ?hd (cs := #[.slice A0_0 l0_0.length c0_0]) (t := 44) ?hr ?_; (case hd => rfl); (case hg => rfl); (case hr => first | (go_simp; done) | (go_simp; rfl)); intro gb hg w2 hbox hb; have n1_ := Aside0.mk (below_step HB.out hb); have n2_ := Aside0.mk hbox; clear HB hb hbox hg; have HB := n1_; have BK := n2_; clear n1_ n2_; have hcz := (blk_cell BK.out 0).trans rfl)
          | (go_at_call 54; (with_reducible refine (impl_ValidBundle.calls 300 _ _ l0_0 true _ ?s4a ?s4b hv.out).mono ?_); (case s4a => exact Kd.C_below HR.out HB.out); (case s4b => exact HC.out); rintro e w3 ⟨rfl, hb⟩; have n1_ := Aside0.mk (below_step HB.out hb); have n2_ := Aside0.mk (blk_below BK.out hb); clear HB hb BK hcz; have HB := n1_; have BK := n2_; clear n1_ n2_)
          | (go_at_call 64; (with_reducible refine (impl_in.calls a1 0 ((l0_0.length : Int) - 1) true _ HIN1.out).mono ?_); rintro e w4 ⟨rfl, hd⟩; have hb := hd.below; have n1_ := Aside0.mk (below_step HB.out hb); have n2_ := Aside0.mk (blk_below BK.out hb); clear HB hb BK hd; have HB := n1_; have BK := n2_; clear n1_ n2_)
          | (go_at_call 64; (with_reducible refine (impl_in.calls a2 0 ((l0_0.length : Int) - 1) false _ HIN2.out).mono ?_); rintro e w4b ⟨rfl, hd⟩; have hb := hd.below; have n1_ := Aside0.mk (below_step HB.out hb); have n2_ := Aside0.mk (blk_below BK.out hb); clear HB hb BK hd; have HB := n1_; have BK := n2_; clear n1_ n2_))
        go_ret3
        exact ⟨_, rfl, Kd.R_nil _ _ _ _ _, HB.out⟩
    · rw [if_neg (fun h => h1 h.2.1)] at h
      cases h
      have HIN1 : Aside0 (impl_in.f a1 0 ((l0_0.length : Int) - 1) = some false) := ⟨by rw [in_impl, decide_eq_false (by omega)]⟩
      clear h1
      go_enter Try.func38, Try.ntmps38
      go_wp2_with (first
        | ((with_reducible refine gate_dst (N := 3) rfl ?_); refine box_event ?hg (N := 3) ?hd (cs := #[.slice A0_0 l0_0.length c0_0]) (t := 44) ?hr ?_; (case hd => rfl); (case hg => rfl); (case hr => first | (go_simp; done) | (go_simp; rfl)); intro gb hg w2 hbox hb; have n1_ := Aside0.mk (below_step HB.out hb); have n2_ := Aside0.mk hbox; clear HB hb hbox hg; have HB := n1_; have BK := n2_; clear n1_ n2_; have hcz := (blk_cell BK.out 0).trans rfl)
        | (go_at_call 54; (with_reducible refine (impl_ValidBundle.calls 300 _ _ l0_0 true _ ?s5a ?s5b hv.out).mono ?_); (case s5a => exact Kd.C_below HR.out HB.out); (case s5b => exact HC.out); rintro e w3 ⟨rfl, hb⟩; have n1_ := Aside0.mk (below_step HB.out hb); have n2_ := Aside0.mk (blk_below BK.out hb); clear HB hb BK hcz; have HB := n1_; have BK := n2_; clear n1_ n2_)
        | (go_at_call 64; (with_reducible refine (impl_in.calls a1 0 ((l0_0.length : Int) - 1) false _ HIN1.out).mono ?_); rintro e w4 ⟨rfl, hd⟩; have hb := hd.below; have n1_ := Aside0.mk (below_step HB.out hb); have n2_ := Aside0.mk (blk_below BK.out hb); clear HB hb BK hd; have HB := n1_; have BK := n2_; clear n1_ n2_))
      go_ret3
      exact ⟨_, rfl, Kd.R_nil _ _ _ _ _, HB.out⟩
end Go.Proofs.Ytaapbnhggfmlpaa.P
end
section
set_option linter.unusedVariables false
namespace Go.Proofs.Ytaapbnhggfmlpaa.B
open Go.RowKit Go.Proofs.Ytaapbnhggfmlpaa.P Go.Proofs.YtaapbnhggfmlpaaW.PrintWords Go.Proofs.YtaapbnhggfmlpaaW.PrintLast Go.Proofs.YtaapbnhggfmlpaaW.PrintMore Go.Proofs.Ytaapbnhggfmlpaa.A
theorem ucnt_empty : ∀ n, ucnt n 0 = n := by
  intro n
  induction n with
  | zero => rfl
  | succ n ih => rw [ucnt_succ, ih]; simp
theorem ucnt_one {n a : Nat} (ha : a < n) : ucnt n (2 ^ a) + 1 = n := by
  have h := ucnt_or n 0 a (by simp)
  rw [if_pos ha, Nat.zero_or, ucnt_empty] at h
  exact h
theorem tb_pow {a i : Nat} (h : i ≠ a) : (2 ^ a).testBit i = false := by
  rw [Nat.testBit_two_pow]
  simp
  exact fun e => h e.symm
section
variable {n : Nat} {W : Nat → Nat → Int} {fin : Int}
theorem cmp_ord {a S : Nat} {p : List (Nat × Bool)} {c : Int} (ha : a < n) (h : Cmp n W fin (2 ^ a) a S p c) : OrdN n (a :: p.map Prod.fst) := by
  have h1 := h.len
  have h2 := ucnt_one ha
  obtain ⟨h3, h4⟩ := h.nodup
  refine ⟨by simp; omega, List.nodup_cons.2 ⟨fun hm => ?_, h3⟩, fun v hv => ?_⟩
  · have := (h4 a hm).2
    simp [Nat.testBit_two_pow_self] at this
  · rcases List.mem_cons.1 hv with rfl | hv
    · exact ha
    · exact (h4 v hv).1
theorem ord_cmp {a : Nat} {p : List (Nat × Bool)} (h : OrdN n (a :: p.map Prod.fst)) (hf : fin < 0 ∨ (((p.map Prod.fst).getLastD a : Nat) : Int) = fin) : Cmp n W fin (2 ^ a) a (trues p) p (pathC W a p) := by
  have ha : a < n := h.lt a (List.mem_cons_self ..)
  obtain ⟨h1, h2⟩ := List.nodup_cons.1 h.nd
  have h3 := h.len
  have h4 := ucnt_one ha
  refine Cmp.of p (2 ^ a) a (Nat.pow_lt_pow_right (by decide) ha) h2 (fun i hi => ⟨h.lt i (List.mem_cons_of_mem _ hi), tb_pow fun e => h1 (e ▸ hi)⟩) (by simp at h3; omega) hf
end
theorem plain_fst (r : List Nat) : (r.map fun i => (i, false)).map Prod.fst = r := by
  rw [List.map_map]
  exact List.map_id' r
theorem plain_trues : ∀ (r : List Nat), trues (r.map fun i => (i, false)) = 0
  | [] => rfl
  | i :: r => by have := plain_trues r; simp [trues] at this ⊢
theorem trues_zero : ∀ (p : List (Nat × Bool)), trues p = 0 → p = (p.map Prod.fst).map fun i => (i, false)
  | [], _ => rfl
  | (i, true) :: p, h => by simp [trues] at h
  | (i, false) :: p, h => by
    have h' : trues p = 0 := by simpa [trues] using h
    have := trues_zero p h'
    rw [List.map_cons, List.map_cons, ← this]
/-- The first ones with shields. -/
def flagged : List Nat → Nat → List (Nat × Bool)
  | [], _ => []
  | i :: r, 0 => (i, false) :: flagged r 0
  | i :: r, s + 1 => (i, true) :: flagged r s
theorem flagged_fst : ∀ (r : List Nat) (s : Nat), (flagged r s).map Prod.fst = r
  | [], _ => rfl
  | i :: r, 0 => by simp [flagged, flagged_fst r 0]
  | i :: r, s + 1 => by simp [flagged, flagged_fst r s]
theorem flagged_trues : ∀ (r : List Nat) (s : Nat), s ≤ r.length → trues (flagged r s) = s
  | [], s, h => by simp at h; subst h; rfl
  | i :: r, 0, _ => by have := flagged_trues r 0 (Nat.zero_le _); simp [flagged, trues] at this ⊢; exact this
  | i :: r, s + 1, h => by have := flagged_trues r s (by simpa using h); simp [flagged, trues] at this ⊢; exact this
theorem range_ord (n : Nat) (h : 1 ≤ n) : OrdN n (0 :: (List.range n).tail) := by
  have e : (0 :: (List.range n).tail) = List.range n := by
    obtain ⟨m, rfl⟩ : ∃ m, n = m + 1 := ⟨n - 1, by omega⟩
    rw [List.range_succ_eq_map]
    rfl
  rw [e]
  exact ⟨by simp, List.nodup_range, fun v hv => List.mem_range.1 hv⟩
section
variable {l : List (List Int)} (V : Valid l)
include V
open Classical in
theorem vb_true (k : Nat) (hk : 250 ≤ k) : impl_ValidBundle.f k l = some true := by
  rw [validBundle l k hk, decide_eq_true V]
theorem bestOrder (s : Nat) (hs : s + 1 ≤ l.length) : ∃ w p c, impl_BestOrder.f l s = some (up (w :: p.map Prod.fst), c, true) ∧ w < l.length ∧ Cmp l.length (Wt l) (-1) (2 ^ w) w s p c ∧
    ∀ a p', OrdN l.length (a :: p'.map Prod.fst) → trues p' = s → c ≤ pathC (Wt l) a p' ∧ (pathC (Wt l) a p' = c → lexLE (w :: p.map Prod.fst) (a :: p'.map Prod.fst)) := by
  have hn := V.le
  have hcmp : ∀ a p', OrdN l.length (a :: p'.map Prod.fst) → trues p' = s → Cmp l.length (Wt l) (-1) (2 ^ a) a s p' (pathC (Wt l) a p') := by
    intro a p' h e
    rw [← e]
    exact ord_cmp h (.inl (by decide))
  unfold impl_BestOrder.f
  rw [vb_true V 300 (by omega)]
  simp only [Option.bind_some]
  rw [if_pos ⟨trivial, by omega, by omega⟩]
  rcases orderF_best (fin := -1) V s (by omega) (List.range l.length) (fun w hw => List.mem_range.1 hw) List.pairwise_lt_range with ⟨_, h⟩ | ⟨w, hw, p, c, h1, h2, h3⟩
  · have ho := range_ord l.length (by omega)
    have hl := ho.len
    simp only [List.length_cons] at hl
    exact absurd (hcmp 0 (flagged (List.range l.length).tail s) (by rw [flagged_fst]; exact ho) (flagged_trues _ _ (by omega))) (h 0 (List.mem_range.2 (by omega)) _ _)
  · refine ⟨w, p, c, by rw [h1], List.mem_range.1 hw, h2, fun a p' ho e => ?_⟩
    exact h3 a (List.mem_range.2 (ho.lt a (List.mem_cons_self ..))) p' _ (hcmp a p' ho e)
omit V in
theorem between_ord {f la : Nat} (hf : f < l.length) (hl : la < l.length) (h : f = la ↔ l.length = 1) : ∃ r, OrdN l.length (f :: r) ∧ r.getLastD f = la := by
  by_cases e : f = la
  · have hn := h.1 e
    refine ⟨[], ⟨by simp [hn], by simp, fun v hv => ?_⟩, by simpa using e⟩
    obtain rfl := List.mem_singleton.1 hv
    exact hf
  · refine ⟨(List.range l.length).filter (fun i => decide (i ≠ f ∧ i ≠ la)) ++ [la], ?_, ?_⟩
    · have hnd : (f :: ((List.range l.length).filter (fun i => decide (i ≠ f ∧ i ≠ la)) ++ [la])).Nodup := by
        refine List.nodup_cons.2 ⟨fun hm => ?_, ?_⟩
        · rcases List.mem_append.1 hm with hm | hm
          · have := (List.mem_filter.1 hm).2
            simp at this
          · exact e (List.mem_singleton.1 hm)
        · rw [List.nodup_append]
          refine ⟨List.nodup_range.filter _, by simp, fun x hx y hy => ?_⟩
          obtain rfl := List.mem_singleton.1 hy
          have := (List.mem_filter.1 hx).2
          simp at this
          exact this.2
      have hm : ∀ a, a ∈ f :: ((List.range l.length).filter (fun i => decide (i ≠ f ∧ i ≠ la)) ++ [la]) ↔ a ∈ List.range l.length := by
        intro a
        rw [List.mem_cons, List.mem_append, List.mem_filter, List.mem_singleton, List.mem_range]
        constructor
        · rintro (rfl | ⟨h, _⟩ | rfl)
          · exact hf
          · exact h
          · exact hl
        · intro h
          by_cases h1 : a = f
          · exact .inl h1
          · by_cases h2 : a = la
            · exact .inr (.inr h2)
            · exact .inr (.inl ⟨h, by simp [h1, h2]⟩)
      have hp := (List.perm_ext_iff_of_nodup hnd List.nodup_range).2 hm
      exact ⟨by rw [hp.length_eq]; simp, hnd, fun v hv => List.mem_range.1 ((hm v).1 hv)⟩
    · simp
theorem bestBetween {f la : Nat} (hf : f < l.length) (hl : la < l.length) (h : f = la ↔ l.length = 1) : ∃ p c, impl_BestBetween.f l f la = some (up (f :: p.map Prod.fst), c, true) ∧ Cmp l.length (Wt l) la (2 ^ f) f 0 p c ∧
    ∀ r, OrdN l.length (f :: r) → r.getLastD f = la → c ≤ pathC (Wt l) f (r.map fun i => (i, false)) := by
  have hn := V.le
  have hcmp : ∀ r, OrdN l.length (f :: r) → r.getLastD f = la → Cmp l.length (Wt l) la (2 ^ f) f 0 (r.map fun i => (i, false)) (pathC (Wt l) f (r.map fun i => (i, false))) := by
    intro r ho e
    have := ord_cmp (W := Wt l) (fin := la) (a := f) (p := r.map fun i => (i, false)) (by rw [plain_fst]; exact ho) (.inr (by rw [plain_fst, e]))
    rw [plain_trues] at this
    exact this
  unfold impl_BestBetween.f
  rw [vb_true V 300 (by omega)]
  simp only [Option.bind_some]
  rw [if_pos ⟨trivial, by omega, by omega, by omega⟩, Int.toNat_natCast]
  have hb := orderF_best (l := l) (fin := la) V 0 (by omega) [f] (fun w hw => by rw [List.mem_singleton.1 hw]; exact hf) (List.pairwise_singleton ..)
  rw [show (((0 : Nat) : Nat) : Int) = 0 from rfl] at hb
  rcases hb with ⟨_, h2⟩ | ⟨w, hw, p, c, h1, h2, h3⟩
  · obtain ⟨r, hr, hr2⟩ := between_ord hf hl h
    exact absurd (hcmp r hr hr2) (h2 f (List.mem_singleton_self _) _ _)
  · obtain rfl := List.mem_singleton.1 hw
    exact ⟨p, c, by rw [h1], h2, fun r ho e => (h3 w (List.mem_singleton_self _) _ _ (hcmp r ho e)).1⟩
theorem bestBetween_no {f la : Nat} (h : ¬ (f = la ↔ l.length = 1)) : impl_BestBetween.f l f la = some ([], 0, false) := by
  unfold impl_BestBetween.f
  rw [vb_true V 300 (by omega)]
  simp only [Option.bind_some]
  rw [if_neg]
  rintro ⟨_, _, _, h2⟩
  exact h (by omega)
end
end Go.Proofs.Ytaapbnhggfmlpaa.B
end
section
set_option linter.unusedVariables false
namespace Go.Proofs.Ytaapbnhggfmlpaa.B
open Go.RowKit Go.Proofs.Ytaapbnhggfmlpaa.P Go.Proofs.YtaapbnhggfmlpaaW.PrintWords Go.Proofs.YtaapbnhggfmlpaaW.PrintLast Go.Proofs.YtaapbnhggfmlpaaW.PrintMore Go.Proofs.Ytaapbnhggfmlpaa.A
/-- How many of the first m bits are set. -/
def pop (m set : Nat) : Nat := ((List.range m).filter fun k => set.testBit k).length
def shOf (m set : Nat) : List Int := ((List.range m).filter fun k => set.testBit k).map fun k : Nat => (k : Int) + 1
theorem shOf_len (m set : Nat) : (shOf m set).length = pop m set := by simp [shOf, pop]
theorem pop_le (m set : Nat) : pop m set ≤ m := Nat.le_trans (List.length_filter_le _ _) (by simp)
theorem shOf_succ (m set : Nat) : shOf (m + 1) set = if set.testBit m = true then shOf m set ++ [(m : Int) + 1] else shOf m set := by
  unfold shOf
  rw [List.range_succ, List.filter_append, List.map_append]
  by_cases h : set.testBit m = true <;> simp [h]
theorem pop_succ (m set : Nat) : pop (m + 1) set = pop m set + if set.testBit m = true then 1 else 0 := by
  unfold pop
  rw [List.range_succ, List.filter_append, List.length_append]
  by_cases h : set.testBit m = true <;> simp [h]
theorem mem_shOf (m set : Nat) (x : Int) : x ∈ shOf m set ↔ ∃ k : Nat, k < m ∧ set.testBit k = true ∧ x = (k : Int) + 1 := by
  unfold shOf
  rw [List.mem_map]
  constructor
  · rintro ⟨k, hk, rfl⟩
    obtain ⟨h1, h2⟩ := List.mem_filter.1 hk
    exact ⟨k, List.mem_range.1 h1, h2, rfl⟩
  · rintro ⟨k, h1, h2, rfl⟩
    exact ⟨k, List.mem_filter.2 ⟨List.mem_range.2 h1, h2⟩, rfl⟩
theorem getD_append_lt {α : Type} (xs ys : List α) (i : Nat) (d : α) (h : i < xs.length) : (xs ++ ys).getD i d = xs.getD i d := by
  simp [List.getD_eq_getElem?_getD, List.getElem?_append_left h]
theorem getD_append_at {α : Type} (xs : List α) (x d : α) : (xs ++ [x]).getD xs.length d = x := by
  simp [List.getD_eq_getElem?_getD]
theorem shOf_rise (set : Nat) : ∀ (m : Nat), Rise (m + 1) (shOf m set) := by
  intro m
  induction m with
  | zero => intro i hi; simp [shOf] at hi
  | succ m ih =>
    rw [shOf_succ]
    by_cases c : set.testBit m = true
    · rw [if_pos c]
      intro i hi
      rw [List.length_append, List.length_singleton] at hi
      by_cases e : i = (shOf m set).length
      · subst e
        rw [getD_append_at]
        refine ⟨by omega, by omega, fun h0 => ?_⟩
        rw [getD_append_lt _ _ _ _ (by omega)]
        have := ih ((shOf m set).length - 1) (by omega)
        omega
      · rw [getD_append_lt _ _ _ _ (by omega)]
        obtain ⟨h1, h2, h3⟩ := ih i (by omega)
        refine ⟨h1, by omega, fun h0 => ?_⟩
        rw [getD_append_lt _ _ _ _ (by omega)]
        exact h3 h0
    · rw [if_neg c]
      intro i hi
      obtain ⟨h1, h2, h3⟩ := ih i hi
      exact ⟨h1, by omega, h3⟩
def setOf : List (Nat × Bool) → Nat
  | [] => 0
  | (_, b) :: p => (if b = true then 1 else 0) + 2 * setOf p
theorem setOf_zero (x : Nat × Bool) (p : List (Nat × Bool)) : (setOf (x :: p)).testBit 0 = x.2 := by
  obtain ⟨i, b⟩ := x
  rw [Nat.testBit_zero]
  cases b <;> simp [setOf] <;> omega
theorem setOf_succ (x : Nat × Bool) (p : List (Nat × Bool)) (k : Nat) : (setOf (x :: p)).testBit (k + 1) = (setOf p).testBit k := by
  obtain ⟨i, b⟩ := x
  rw [Nat.testBit_succ]
  congr 1
  cases b <;> simp [setOf] <;> omega
theorem setOf_lt : ∀ (p : List (Nat × Bool)), setOf p < 2 ^ p.length
  | [] => by simp [setOf]
  | (i, b) :: p => by
    have := setOf_lt p
    simp only [setOf, List.length_cons, Nat.pow_succ]
    split <;> omega
theorem setOf_pop : ∀ (p : List (Nat × Bool)), pop p.length (setOf p) = trues p
  | [] => rfl
  | x :: p => by
    have ih := setOf_pop p
    have e : pop (x :: p).length (setOf (x :: p)) = pop p.length (setOf p) + if x.2 = true then 1 else 0 := by
      unfold pop
      rw [List.length_cons, List.range_succ_eq_map, List.filter_cons, setOf_zero, List.filter_map]
      have : ((fun k => (setOf (x :: p)).testBit k) ∘ Nat.succ) = fun k => (setOf p).testBit k := by
        funext k
        exact setOf_succ x p k
      rw [this]
      by_cases h : x.2 = true <;> simp [h]
    rw [e, ih]
    unfold trues
    rw [List.filter_cons]
    by_cases h : x.2 = true <;> simp [h]
theorem fl_setOf (sh : List Int) : ∀ (p : List (Nat × Bool)) (j : Nat), (∀ k, k < p.length → (((j + k : Nat) : Int) ∈ sh ↔ (setOf p).testBit k = true)) → fl sh j (p.map Prod.fst) = p
  | [], _, _ => rfl
  | x :: p, j, h => by
    rw [List.map_cons]
    simp only [fl]
    rw [fl_setOf sh p (j + 1) (fun k hk => by
      have := h (k + 1) (by simp; omega)
      rw [setOf_succ] at this
      rw [← this, show j + 1 + k = j + (k + 1) by omega])]
    have h0 := h 0 (by simp)
    rw [setOf_zero, Nat.add_zero] at h0
    have : decide ((j : Int) ∈ sh) = x.2 := by
      rw [Bool.eq_iff_iff, decide_eq_true_eq]
      exact h0
    rw [this]
theorem fl_shOf (p : List (Nat × Bool)) : fl (shOf p.length (setOf p)) 1 (p.map Prod.fst) = p := by
  refine fl_setOf _ p 1 fun k hk => ?_
  rw [mem_shOf]
  constructor
  · rintro ⟨k', h1, h2, h3⟩
    have : k' = k := by omega
    rw [← this]
    exact h2
  · intro h
    exact ⟨k, hk, h, by push_cast; omega⟩
theorem fl_len (sh : List Int) : ∀ (r : List Nat) (j : Nat), (fl sh j r).length = r.length
  | [], _ => rfl
  | i :: r, j => by simp [fl, fl_len sh r (j + 1)]
/-- The flags of an order by a set have as many trues as the set has bits. -/
theorem trues_fl (set : Nat) (m : Nat) : ∀ (r : List Nat) (j : Nat), j + r.length = m → trues (fl (shOf m set) (j + 1) r) + pop j set = pop m set
  | [], j, h => by
    have : j = m := by simpa using h
    subst this
    simp [fl, trues]
  | i :: r, j, h => by
    have ih := trues_fl set m r (j + 1) (by simp at h; omega)
    rw [pop_succ] at ih
    have e : decide (((j + 1 : Nat) : Int) ∈ shOf m set) = set.testBit j := by
      rw [Bool.eq_iff_iff, decide_eq_true_eq, mem_shOf]
      constructor
      · rintro ⟨k', h1, h2, h3⟩
        have : k' = j := by omega
        rw [← this]
        exact h2
      · intro h2
        exact ⟨j, by simp at h; omega, h2, by push_cast; rfl⟩
    simp only [fl]
    rw [e]
    unfold trues at ih ⊢
    rw [List.filter_cons]
    by_cases hb : set.testBit j = true
    · simp only [hb, if_true] at ih ⊢
      simp only [List.length_cons]
      omega
    · simp only [hb] at ih ⊢
      simp at ih ⊢
      omega
theorem pop_all {m set : Nat} (h : set < 2 ^ m) : ∀ (d : Nat), pop (m + d) set = pop m set
  | 0 => rfl
  | d + 1 => by
    rw [← Nat.add_assoc, pop_succ, pop_all h d, if_neg]
    · rfl
    · rw [Nat.testBit_lt_two_pow (Nat.lt_of_lt_of_le h (Nat.pow_le_pow_right (by decide) (by omega)))]
      simp
theorem ones32 : ∀ x : Fin 32, bits_OnesCount.f (IntKind.u64.wrap ((x.val : Nat) : Int)) = some ((pop 5 x.val : Nat) : Int) := by
  decide +kernel
theorem ones {m set : Nat} (hm : m ≤ 5) (h : set < 2 ^ m) : bits_OnesCount.f (IntKind.u64.wrap (set : Int)) = some ((pop m set : Nat) : Int) := by
  have h32 : set < 32 := Nat.lt_of_lt_of_le h (Nat.pow_le_pow_right (by decide) hm)
  have := ones32 ⟨set, h32⟩
  rw [this, show (5 : Nat) = m + (5 - m) by omega, pop_all h]
theorem compare0 (xs ys : List Int) (hx : xs.length ≤ 1000) (hy : ys.length ≤ 1000) : ∀ (d i k : Nat), xs.length - i = d → i ≤ xs.length → d < k → ∃ r, slices_Compare_int64_int64.l0 k xs ys xs xs.length i = some r := by
  intro d
  induction d with
  | zero =>
    intro i k hd hi hk
    obtain ⟨k, rfl⟩ : ∃ m, k = m + 1 := ⟨k - 1, by omega⟩
    simp only [slices_Compare_int64_int64.l0]
    rw [if_neg (by omega)]
    split <;> exact ⟨_, rfl⟩
  | succ d ih =>
    intro i k hd hi hk
    obtain ⟨k, rfl⟩ : ∃ m, k = m + 1 := ⟨k - 1, by omega⟩
    simp only [slices_Compare_int64_int64.l0]
    rw [if_pos (by omega), if_pos (by omega), if_pos (by omega)]
    by_cases c : (i : Int) ≥ (ys.length : Int)
    · rw [if_pos c]; exact ⟨_, rfl⟩
    · rw [if_neg c, if_pos (by omega)]
      have hc : ∃ t, cmp_Compare_int64.f (rd xs i) (rd ys i) = some t := by
        unfold cmp_Compare_int64.f cmp_isNaN_int64.f
        simp only [Option.bind_some]
        repeat' split
        all_goals exact ⟨_, rfl⟩
      obtain ⟨t, ht⟩ := hc
      rw [ht]
      simp only [Option.bind_some]
      split
      · rw [w64s (show i < xs.length by omega) (by omega)]
        exact ih (i + 1) k (by omega) (by omega) (by omega)
      · exact ⟨_, rfl⟩
section
variable {l : List (List Int)} (V : Valid l) (h6 : l.length ≤ 6) {a : Nat} {rest : List Nat} (hO : OrdN l.length (a :: rest)) (s : Nat) (hs : s + 1 ≤ l.length)
include V h6 hO hs
/-- The cost of a set of shields. -/
def cst (l : List (List Int)) (a : Nat) (rest : List Nat) (set : Nat) : Int := pathC (Wt l) a (fl (shOf rest.length set) 1 rest)
omit hs h6 in
theorem cst_bd (set : Nat) : 0 ≤ cst l a rest set := by
  unfold cst
  have ha : a < l.length := hO.lt a (List.mem_cons_self ..)
  have h := ord_cmp (W := Wt l) (fin := -1) (a := a) (p := fl (shOf rest.length set) 1 rest) (by rw [fl_fst]; exact hO) (.inl (by decide))
  exact (h.bound V ha).1
def Best (l : List (List Int)) (a : Nat) (rest : List Nat) (s i : Nat) (best : List Int) (least : Int) : Prop :=
  (least = -1 ∧ ∀ set, set < i → pop rest.length set ≠ s) ∨ (∃ set, set < i ∧ pop rest.length set = s ∧ best = shOf rest.length set ∧ least = cst l a rest set ∧ ∀ set', set' < i → pop rest.length set' = s → least ≤ cst l a rest set')
theorem shields1 (K i : Nat) (hi : i < 2 ^ rest.length) (hpop : pop rest.length i = s) (best : List Int) (least : Int) (hB : Best l a rest s i best least) (F : Option (List Int × Int × Bool) → Prop)
    (next : ∀ (k : Nat) (best : List Int) (least : Int), K ≤ k → Best l a rest s (i + 1) best least → F (impl_BestShields.l0 k (up (a :: rest)) s best least ((2 ^ rest.length : Nat) : Int) ((i + 1 : Nat) : Int) l)) :
    ∀ (d j k : Nat), rest.length - j = d → j ≤ rest.length → K + d + 1100 ≤ k → F (impl_BestShields.l1 k (up (a :: rest)) s best least i (shOf j i) ((2 ^ rest.length : Nat) : Int) i (wrap64 ((up (a :: rest)).length - 1)) j l) := by
  have hlen := hO.len
  simp only [List.length_cons] at hlen
  have h5 : rest.length ≤ 5 := by omega
  have hp : 2 ^ rest.length ≤ 32 := Nat.pow_le_pow_right (by decide) h5
  have eup : (up (a :: rest)).length = rest.length + 1 := by rw [up_length]; rfl
  have ew : wrap64 (((up (a :: rest)).length : Int) - 1) = (rest.length : Int) := by rw [eup, w64 (by omega)]; omega
  rw [ew]
  intro d
  induction d with
  | zero =>
    intro j k hd hj hk
    obtain ⟨k, rfl⟩ : ∃ m, k = m + 2 := ⟨k - 2, by omega⟩
    obtain rfl : j = rest.length := by omega
    conv => arg 1; unfold impl_BestShields.l1
    rw [if_neg (by omega), coupling V (shOf rest.length i) (by rw [shOf_len]; have := pop_le rest.length i; omega) hO (k + 1) (by rw [shOf_len]; have := pop_le rest.length i; omega)]
    simp only [Option.bind_some]
    rw [show pathC (Wt l) a (fl (shOf rest.length i) 1 rest) = cst l a rest i from rfl]
    have hc0 := cst_bd V hO i
    have take : Best l a rest s (i + 1) (shOf rest.length i) (cst l a rest i) → F (impl_BestShields.j3 (k + 1) (up (a :: rest)) s best least (shOf rest.length i) (cst l a rest i) ((2 ^ rest.length : Nat) : Int) i true l) := by
      intro h
      simp only [impl_BestShields.j3, if_true]
      rw [w64s hi (by omega)]
      exact next k _ _ (by omega) h
    have skip : Best l a rest s (i + 1) best least → F (impl_BestShields.j3 (k + 1) (up (a :: rest)) s best least (shOf rest.length i) (cst l a rest i) ((2 ^ rest.length : Nat) : Int) i false l) := by
      intro h
      simp only [impl_BestShields.j3, Bool.false_eq_true, if_false]
      rw [w64s hi (by omega)]
      exact next k _ _ (by omega) h
    rcases hB with ⟨rfl, hno⟩ | ⟨set, hset, hs1, rfl, rfl, hmin⟩
    · rw [if_pos (by omega)]
      refine take (.inr ⟨i, by omega, hpop, rfl, rfl, fun set' h1 h2 => ?_⟩)
      by_cases e : set' = i
      · subst e; exact Int.le_refl _
      · exact absurd h2 (hno set' (by omega))
    · have hc1 := cst_bd V hO set
      rw [if_neg (by omega)]
      have htake : cst l a rest i ≤ cst l a rest set → Best l a rest s (i + 1) (shOf rest.length i) (cst l a rest i) := by
        intro hle
        refine .inr ⟨i, by omega, hpop, rfl, rfl, fun set' h1 h2 => ?_⟩
        by_cases e : set' = i
        · subst e; exact Int.le_refl _
        · have := hmin set' (by omega) h2
          omega
      have hskip : cst l a rest set ≤ cst l a rest i → Best l a rest s (i + 1) (shOf rest.length set) (cst l a rest set) := by
        intro hle
        refine .inr ⟨set, by omega, hs1, rfl, rfl, fun set' h1 h2 => ?_⟩
        by_cases e : set' = i
        · subst e; exact hle
        · exact hmin set' (by omega) h2
      by_cases c1 : cst l a rest i < cst l a rest set
      · rw [if_pos c1]
        exact take (htake (by omega))
      · rw [if_neg c1]
        by_cases c2 : cst l a rest i = cst l a rest set
        · rw [if_pos c2]
          obtain ⟨r, hr⟩ := compare0 (shOf rest.length i) (shOf rest.length set) (by rw [shOf_len]; have := pop_le rest.length i; omega) (by rw [shOf_len]; have := pop_le rest.length set; omega) (shOf rest.length i).length 0 (k + 1) (by omega) (by omega) (by rw [shOf_len]; have := pop_le rest.length i; omega)
          unfold slices_Compare_int64_int64.f
          rw [show (0 : Int) = ((0 : Nat) : Int) from rfl, hr]
          simp only [Option.bind_some]
          by_cases c3 : r < ((0 : Nat) : Int)
          · rw [decide_eq_true c3]
            exact take (htake (by omega))
          · rw [decide_eq_false c3]
            exact skip (hskip (by omega))
        · rw [if_neg c2]
          exact skip (hskip (by omega))
  | succ d ih =>
    intro j k hd hj hk
    obtain ⟨k, rfl⟩ : ∃ m, k = m + 1 := ⟨k - 1, by omega⟩
    have hjl : j < rest.length := by omega
    have hih := ih (j + 1) k (by omega) (by omega) (by omega)
    rw [shOf_succ] at hih
    conv => arg 1; unfold impl_BestShields.l1
    rw [if_pos (by omega), if_pos (by omega), shr_nat _ (by omega), w64s hjl (by omega)]
    by_cases c : i.testBit j = true
    · rw [if_pos c] at hih
      rw [if_pos ((tst_nat i j (by omega)).2 c), if_pos (by rw [shOf_len]; have := pop_le j i; omega)]
      rw [show ((j + 1 : Nat) : Int) = (j : Int) + 1 by push_cast; rfl] at hih ⊢
      exact hih
    · rw [if_neg c] at hih
      rw [if_neg (fun h => c ((tst_nat i j (by omega)).1 h))]
      exact hih
theorem shields0 (F : Option (List Int × Int × Bool) → Prop) (fin_ : ∀ (best : List Int) (least : Int), Best l a rest s (2 ^ rest.length) best least → F (some (best, least, true))) :
    ∀ (d i k : Nat) (best : List Int) (least : Int), 2 ^ rest.length - i = d → i ≤ 2 ^ rest.length → 1200 * d + 1 ≤ k → Best l a rest s i best least → F (impl_BestShields.l0 k (up (a :: rest)) s best least ((2 ^ rest.length : Nat) : Int) i l) := by
  have hlen := hO.len
  simp only [List.length_cons] at hlen
  have h5 : rest.length ≤ 5 := by omega
  have hp : 2 ^ rest.length ≤ 32 := Nat.pow_le_pow_right (by decide) h5
  intro d
  induction d with
  | zero =>
    intro i k best least hd hi hk hB
    obtain ⟨k, rfl⟩ : ∃ m, k = m + 1 := ⟨k - 1, by omega⟩
    obtain rfl : i = 2 ^ rest.length := by omega
    simp only [impl_BestShields.l0]
    rw [if_neg (by omega)]
    exact fin_ best least hB
  | succ d ih =>
    intro i k best least hd hi hk hB
    obtain ⟨k, rfl⟩ : ∃ m, k = m + 1 := ⟨k - 1, by omega⟩
    have hil : i < 2 ^ rest.length := by omega
    simp only [impl_BestShields.l0]
    rw [if_pos (by omega), ones h5 hil]
    simp only [Option.bind_some]
    by_cases c : ((pop rest.length i : Nat) : Int) = (s : Int)
    · rw [if_pos c]
      exact shields1 V h6 hO s hs (1200 * d + 1) i hil (by omega) best least hB F (fun k best least hk hB => ih (i + 1) k best least (by omega) (by omega) hk hB) rest.length 0 k (by omega) (by omega) (by omega)
    · rw [if_neg c, w64s hil (by omega)]
      refine ih (i + 1) k best least (by omega) (by omega) (by omega) ?_
      rcases hB with ⟨h1, h2⟩ | ⟨set, h1, h2, h3, h4, h5⟩
      · refine .inl ⟨h1, fun set h3 => ?_⟩
        by_cases e : set = i
        · subst e; omega
        · exact h2 set (by omega)
      · refine .inr ⟨set, by omega, h2, h3, h4, fun set' h6 h7 => ?_⟩
        by_cases e : set' = i
        · subst e; omega
        · exact h5 set' (by omega) h7
theorem bestShields (k : Nat) (hk : 50000 ≤ k) : ∃ sh c, impl_BestShields.f k l (up (a :: rest)) s = some (sh, c, true) ∧ sh.length = s ∧ Rise l.length sh ∧ c = pathC (Wt l) a (fl sh 1 rest) ∧ trues (fl sh 1 rest) = s ∧ ∀ p, p.map Prod.fst = rest → trues p = s → c ≤ pathC (Wt l) a p := by
  have hlen := hO.len
  simp only [List.length_cons] at hlen
  have h5 : rest.length ≤ 5 := by omega
  have hp : 2 ^ rest.length ≤ 32 := Nat.pow_le_pow_right (by decide) h5
  have eup : (up (a :: rest)).length = rest.length + 1 := by rw [up_length]; rfl
  have ew : wrap64 (((up (a :: rest)).length : Int) - 1) = (rest.length : Int) := by rw [eup, w64 (by omega)]; omega
  obtain ⟨b, hb, hbo⟩ := orderOk V (up (a :: rest)) (by omega) k (by omega)
  obtain ⟨k, rfl⟩ : ∃ m, k = m + 1 := ⟨k - 1, by omega⟩
  unfold impl_BestShields.f
  rw [hb, hbo.2 hO.ord]
  simp only [Option.bind_some, if_true]
  rw [ew, in_impl, decide_eq_true (by omega)]
  simp only [Option.bind_some, Bool.not_true, impl_BestShields.j0, Bool.false_eq_true, if_false]
  rw [ew, if_pos (by omega), shl_nat (by omega), wpow rest.length (by omega)]
  have hfin := shields0 V h6 hO s hs (fun r => ∃ sh c, r = some (sh, c, true) ∧ sh.length = s ∧ Rise l.length sh ∧ c = pathC (Wt l) a (fl sh 1 rest) ∧ trues (fl sh 1 rest) = s ∧ ∀ p, p.map Prod.fst = rest → trues p = s → c ≤ pathC (Wt l) a p) (by
    intro best least hB
    have hset : ∀ p : List (Nat × Bool), p.map Prod.fst = rest → trues p = s → setOf p < 2 ^ rest.length ∧ pop rest.length (setOf p) = s ∧ cst l a rest (setOf p) = pathC (Wt l) a p := by
      rintro p rfl e
      have hpl : (p.map Prod.fst).length = p.length := List.length_map ..
      unfold cst
      rw [hpl, fl_shOf]
      exact ⟨setOf_lt p, by rw [setOf_pop]; exact e, rfl⟩
    rcases hB with ⟨_, hno⟩ | ⟨set, h1, h2, rfl, h4, hmin⟩
    · obtain ⟨g1, g2, _⟩ := hset (flagged rest s) (flagged_fst rest s) (flagged_trues rest s (by omega))
      exact absurd g2 (hno _ g1)
    · refine ⟨_, least, rfl, by rw [shOf_len]; exact h2, by rw [← hlen]; exact shOf_rise set rest.length, h4, ?_, fun p hpf ht => ?_⟩
      · have := trues_fl set rest.length rest 0 (by omega)
        simp [pop] at this
        rw [this]
        exact h2
      · obtain ⟨g1, g2, g3⟩ := hset p hpf ht
        have := hmin _ g1 g2
        omega) (2 ^ rest.length) 0 k [] (-1) (Nat.sub_zero _) (Nat.zero_le _) (by omega) (.inl ⟨rfl, fun set h => by omega⟩)
  simpa using hfin
end
end Go.Proofs.Ytaapbnhggfmlpaa.B
end
section
set_option linter.unusedVariables false
namespace Go.Proofs.Ytaapbnhggfmlpaa.A

inductive Cn (E : Nat → Nat → Prop) : Nat → Nat → Prop
  | refl (a : Nat) : Cn E a a
  | edge {a b : Nat} : E a b → Cn E a b
  | symm {a b : Nat} : Cn E a b → Cn E b a
  | trans {a b c : Nat} : Cn E a b → Cn E b c → Cn E a c

theorem Cn.closed {E : Nat → Nat → Prop} {S : List Nat} (h : ∀ a b, E a b → (a ∈ S ↔ b ∈ S)) : ∀ {a b : Nat}, Cn E a b → (a ∈ S ↔ b ∈ S) := by
  intro a b c
  induction c with
  | refl a => exact Iff.rfl
  | edge e => exact h _ _ e
  | symm _ ih => exact ih.symm
  | trans _ _ ih1 ih2 => exact ih1.trans ih2
theorem Cn.under {E : Nat → Nat → Prop} {n : Nat} (h : ∀ a b, E a b → a < n ∧ b < n) : ∀ {a b : Nat}, Cn E a b → (a < n ↔ b < n) := by
  intro a b c
  induction c with
  | refl a => exact Iff.rfl
  | edge e => exact ⟨fun _ => (h _ _ e).2, fun _ => (h _ _ e).1⟩
  | symm _ ih => exact ih.symm
  | trans _ _ ih1 ih2 => exact ih1.trans ih2

def cset (E : Nat → Nat → Prop) : Setoid Nat := ⟨Cn E, ⟨Cn.refl, Cn.symm, Cn.trans⟩⟩
noncomputable def rep (E : Nat → Nat → Prop) (v : Nat) : Nat := Classical.choose (Quot.exists_rep (Quotient.mk (cset E) v))
theorem rep_mk (E : Nat → Nat → Prop) (v : Nat) : (Quotient.mk (cset E) (rep E v)) = Quotient.mk (cset E) v := Classical.choose_spec (Quot.exists_rep (Quotient.mk (cset E) v))
theorem rep_cn (E : Nat → Nat → Prop) (v : Nat) : Cn E (rep E v) v := Quotient.exact (s := cset E) (rep_mk E v)
theorem rep_eq {E : Nat → Nat → Prop} {u v : Nat} (h : Cn E u v) : rep E u = rep E v := by
  have e : Quotient.mk (cset E) u = Quotient.mk (cset E) v := Quotient.sound (s := cset E) h
  unfold rep
  simp only [e]
theorem cn_of_rep {E : Nat → Nat → Prop} {u v : Nat} (h : rep E u = rep E v) : Cn E u v :=
  (rep_cn E u).symm.trans (h ▸ rep_cn E v)

def cnt (B : Nat) (L : List Nat) : Nat := ((List.range B).filter (fun r => decide (r ∈ L))).length
theorem cnt_congr {B : Nat} {L M : List Nat} (h : ∀ r, r ∈ L ↔ r ∈ M) : cnt B L = cnt B M := by
  unfold cnt
  congr 2
  funext r
  simp [h r]
theorem cnt_cons (B x : Nat) (L : List Nat) (hx : x < B) : cnt B (x :: L) = cnt B L + if x ∈ L then 0 else 1 := by
  by_cases h : x ∈ L
  · rw [if_pos h]
    exact cnt_congr (fun r => ⟨fun hr => by rcases List.mem_cons.1 hr with rfl | hr <;> assumption, fun hr => List.mem_cons_of_mem _ hr⟩)
  · rw [if_neg h]
    induction B with
    | zero => omega
    | succ B ih =>
      unfold cnt at ih ⊢
      rw [List.range_succ, List.filter_append, List.filter_append, List.length_append, List.length_append]
      by_cases e : x = B
      · subst e
        have e1 : (List.range x).filter (fun r => decide (r ∈ x :: L)) = (List.range x).filter (fun r => decide (r ∈ L)) := by
          apply List.filter_congr
          intro r hr
          have : r ≠ x := by have := List.mem_range.1 hr; omega
          simp [this]
        rw [e1]
        simp [h]
      · have h1 := ih (by omega)
        have h2 : [B].filter (fun r => decide (r ∈ x :: L)) = [B].filter (fun r => decide (r ∈ L)) := by
          apply List.filter_congr
          intro r hr
          have : r ≠ x := by have := List.mem_singleton.1 hr; omega
          simp [this]
        rw [h1, h2]
        omega
theorem cnt_le (B : Nat) (L : List Nat) : cnt B L ≤ B := by
  unfold cnt
  exact Nat.le_trans (List.length_filter_le _ _) (by simp)
theorem cnt_nodup {B : Nat} : ∀ {L : List Nat}, L.Nodup → (∀ i, i ∈ L → i < B) → cnt B L = L.length
  | [], _, _ => by simp [cnt]
  | x :: L, hn, h => by
    rw [cnt_cons B x L (h x (by simp)), if_neg (List.nodup_cons.1 hn).1, cnt_nodup (List.nodup_cons.1 hn).2 (fun i hi => h i (by simp [hi]))]
    rfl

def sumT (f : Nat → Int) : Nat → Int
  | 0 => 0
  | m + 1 => sumT f m + f m
theorem sumT_add (f g : Nat → Int) : ∀ m, sumT (fun t => f t + g t) m = sumT f m + sumT g m
  | 0 => rfl
  | m + 1 => by simp only [sumT, sumT_add f g m]; omega
theorem sumT_congr {f g : Nat → Int} : ∀ m, (∀ t, t < m → f t = g t) → sumT f m = sumT g m
  | 0, _ => rfl
  | m + 1, h => by simp only [sumT]; rw [sumT_congr m (fun t ht => h t (by omega)), h m (by omega)]
theorem sumT_le {f g : Nat → Int} : ∀ m, (∀ t, t < m → f t ≤ g t) → sumT f m ≤ sumT g m
  | 0, _ => Int.le_refl _
  | m + 1, h => by simp only [sumT]; have := sumT_le m (fun t ht => h t (by omega)); have := h m (by omega); omega
/-- A number from 0 to M is how many thresholds it is above. -/
theorem sumT_above (b : Int) (h0 : 0 ≤ b) : ∀ M : Nat, sumT (fun t => if (t : Int) < b then 1 else 0) M = if b ≤ M then b else M
  | 0 => by simp only [sumT]; split <;> omega
  | M + 1 => by
    simp only [sumT]
    rw [sumT_above b h0 M]
    split <;> split <;> split <;> omega

section
variable (n : Nat) (W : Nat → Nat → Int)
def E (t : Nat) (a b : Nat) : Prop := a < n ∧ b < n ∧ W a b ≤ t
noncomputable def cl (t : Nat) (S : List Nat) : Nat := cnt n (S.map (rep (E n W t)))
variable {n W}
theorem rep_lt {t v : Nat} (h : v < n) : rep (E n W t) v < n := ((rep_cn (E n W t) v).under (fun a b e => ⟨e.1, e.2.1⟩)).2 h
theorem cl_cons {t a : Nat} {S : List Nat} (h : a < n) : cl n W t (a :: S) = cl n W t S + if rep (E n W t) a ∈ S.map (rep (E n W t)) then 0 else 1 := by
  unfold cl
  rw [List.map_cons, cnt_cons _ _ _ (rep_lt h)]
theorem cl_same {t a i : Nat} {S : List Nat} (h : a < n) (hi : i ∈ S) (hin : i < n) (hw : W i a ≤ t) : cl n W t (a :: S) = cl n W t S := by
  rw [cl_cons h, if_pos]
  · rfl
  · exact List.mem_map.2 ⟨i, hi, rep_eq (.edge ⟨hin, h, hw⟩)⟩
theorem cl_more {t a : Nat} {S : List Nat} (hsym : ∀ i j, i < n → j < n → W i j = W j i) (h : a < n) (ha : a ∉ S) (hS : ∀ i, i ∈ S → i < n) (hno : ∀ i j, i ∈ S → j ∉ S → j < n → (t : Int) < W i j) : cl n W t (a :: S) = cl n W t S + 1 := by
  rw [cl_cons h, if_neg]
  intro hm
  obtain ⟨i, hi, e⟩ := List.mem_map.1 hm
  have c := cn_of_rep e
  have := (Cn.closed (S := S) (fun x y e => by
    constructor
    · intro hx
      by_cases hy : y ∈ S
      · exact hy
      · have := hno x y hx hy e.2.1; have := e.2.2; omega
    · intro hy
      by_cases hx : x ∈ S
      · exact hx
      · have h1 := hno y x hy hx e.1; have h2 := e.2.2; rw [hsym x y e.1 e.2.1] at h2; omega) c).1 hi
  exact ha this
theorem cl_le {t a : Nat} {S : List Nat} (h : a < n) : cl n W t (a :: S) ≤ cl n W t S + 1 := by
  rw [cl_cons h]; split <;> omega
theorem cl_one {t a : Nat} (h : a < n) : cl n W t [a] = 1 := by
  rw [cl_cons h, if_neg (by simp)]
  simp [cl, cnt]
theorem cl_full {t : Nat} {S S' : List Nat} (h : ∀ v, v ∈ S ↔ v ∈ S') : cl n W t S = cl n W t S' := by
  unfold cl
  apply cnt_congr
  intro r
  simp only [List.mem_map]
  constructor
  · rintro ⟨v, hv, e⟩; exact ⟨v, (h v).1 hv, e⟩
  · rintro ⟨v, hv, e⟩; exact ⟨v, (h v).2 hv, e⟩

/-- b is the least weight between S and what is outside, a an end of such an edge. -/
structure MinCross (n : Nat) (W : Nat → Nat → Int) (S : List Nat) (b : Int) (a : Nat) : Prop where
  out : a ∉ S
  lt : a < n
  edge : ∃ i, i ∈ S ∧ W i a = b
  least : ∀ i j, i ∈ S → j ∉ S → j < n → b ≤ W i j

inductive Prim (n : Nat) (W : Nat → Nat → Int) : List Nat → Int → Int → Prop
  | done {S : List Nat} {s : Int} : S.length = n → Prim n W S s s
  | step {S T : List Nat} {s r b : Int} {a : Nat} : S.length < n → MinCross n W S b a → (∀ v, v ∈ T ↔ v = a ∨ v ∈ S) → T.Nodup → Prim n W T (s + b) r → Prim n W S s r

theorem full_of_nodup : ∀ {n : Nat} {S : List Nat}, S.Nodup → (∀ i, i ∈ S → i < n) → S.length = n → ∀ v, v ∈ S ↔ v ∈ List.range n := by
  intro n S hn hS hl v
  constructor
  · intro hv; exact List.mem_range.2 (hS v hv)
  · intro hv
    have hv' := List.mem_range.1 hv
    by_cases h : v ∈ S
    · exact h
    · have h1 := cnt_nodup (B := n) (List.nodup_cons.2 ⟨h, hn⟩) (fun i hi => by rcases List.mem_cons.1 hi with rfl | hi; exact hv'; exact hS i hi)
      have h2 := cnt_le n (v :: S)
      simp at h1
      omega

theorem Prim.value (hsym : ∀ i j, i < n → j < n → W i j = W j i) (hb : ∀ i j, i < n → j < n → 0 ≤ W i j ∧ W i j ≤ 1000) {S : List Nat} {s r : Int} (h : Prim n W S s r) (hn : S.Nodup) (hS : ∀ i, i ∈ S → i < n) :
    r = s + sumT (fun t => (cl n W t (List.range n) : Int) - cl n W t S) 1000 := by
  induction h with
  | @done S s hl =>
    have e : sumT (fun t => (cl n W t (List.range n) : Int) - cl n W t S) 1000 = sumT (fun _ => 0) 1000 := sumT_congr _ (fun t _ => by rw [cl_full (full_of_nodup hn hS hl)]; omega)
    have z : ∀ m, sumT (fun _ => (0 : Int)) m = 0 := fun m => by induction m with | zero => rfl | succ m ih => simp [sumT, ih]
    rw [e, z]; omega
  | @step S T s r b a hl hc hT hTn hp ih =>
    have := ih hTn (fun i hi => by rcases (hT i).1 hi with rfl | hi; exact hc.lt; exact hS i hi)
    rw [this, show (fun t => (cl n W t (List.range n) : Int) - cl n W t T) = (fun t => (cl n W t (List.range n) : Int) - cl n W t (a :: S)) from funext fun t => by rw [cl_full (S' := a :: S) (fun v => (hT v).trans List.mem_cons.symm)]]
    obtain ⟨i, hi, hw⟩ := hc.edge
    have hbi := hb i a (hS i hi) hc.lt
    rw [hw] at hbi
    have e1 : ∀ t, t < 1000 → ((cl n W t (List.range n) : Int) - cl n W t S) = ((cl n W t (List.range n) : Int) - cl n W t (a :: S)) + (if (t : Int) < b then 1 else 0) := by
      intro t _
      by_cases hlt : (t : Int) < b
      · rw [if_pos hlt, cl_more hsym hc.lt hc.out hS (fun i j hi hj hjn => by have := hc.least i j hi hj hjn; omega)]
        push_cast; omega
      · rw [if_neg hlt, cl_same hc.lt hi (hS i hi) (by rw [hw]; omega)]
        omega
    rw [sumT_congr 1000 e1, sumT_add, sumT_above b hbi.1 1000, if_pos (by omega)]
    omega

/-- The sum is one and the same, whichever least edges are taken. -/
theorem Prim.unique (hsym : ∀ i j, i < n → j < n → W i j = W j i) (hb : ∀ i j, i < n → j < n → 0 ≤ W i j ∧ W i j ≤ 1000) {S S' : List Nat} {s r r' : Int} (h : Prim n W S s r) (h' : Prim n W S' s r') (hn : S.Nodup) (hS : ∀ i, i ∈ S → i < n) (hn' : S'.Nodup) (he : ∀ i, i ∈ S ↔ i ∈ S') : r = r' := by
  rw [h.value hsym hb hn hS, h'.value hsym hb hn' (fun i hi => hS i ((he i).2 hi))]
  congr 2
  funext t
  rw [cl_full he]

def pathSum (W : Nat → Nat → Int) : List Nat → Int
  | [] => 0
  | [_] => 0
  | a :: b :: r => W a b + pathSum W (b :: r)
theorem path_ge (hb : ∀ i j, i < n → j < n → 0 ≤ W i j ∧ W i j ≤ 1000) : ∀ (r : List Nat) (a : Nat) (S : List Nat), a ∈ S → (∀ i, i ∈ S → i < n) → (∀ i, i ∈ r → i < n) →
    sumT (fun t => (cl n W t (r.reverse ++ S) : Int) - cl n W t S) 1000 ≤ pathSum W (a :: r)
  | [], a, S, ha, hS, hr => by
    have z : ∀ m, sumT (fun _ => (0 : Int)) m = 0 := fun m => by induction m with | zero => rfl | succ m ih => simp [sumT, ih]
    rw [sumT_congr (g := fun _ => 0) 1000 (fun t _ => by simp), z]
    simp [pathSum]
  | b :: r, a, S, ha, hS, hr => by
    have hbn := hr b (by simp)
    have ih := path_ge hb r b (b :: S) (by simp) (fun i hi => by rcases List.mem_cons.1 hi with rfl | hi; exact hbn; exact hS i hi) (fun i hi => hr i (by simp [hi]))
    have hw := hb a b (hS a ha) hbn
    have e1 : ∀ t, t < 1000 → (cl n W t ((b :: r).reverse ++ S) : Int) - cl n W t S ≤ ((cl n W t (r.reverse ++ b :: S) : Int) - cl n W t (b :: S)) + (if (t : Int) < W a b then 1 else 0) := by
      intro t _
      rw [show (b :: r).reverse ++ S = r.reverse ++ b :: S by simp]
      by_cases hlt : (t : Int) < W a b
      · rw [if_pos hlt]
        have := cl_le (W := W) (t := t) (S := S) hbn
        omega
      · rw [if_neg hlt, cl_same (W := W) (t := t) hbn ha (hS a ha) (by omega)]
        omega
    have := sumT_le 1000 e1
    rw [sumT_add, sumT_above _ hw.1 1000, if_pos (by omega)] at this
    simp only [pathSum]
    omega

/-! ### a scan for the least edge -/
def J (n : Nat) (W : Nat → Nat → Int) (S : List Nat) (Sc : Nat → Nat → Prop) (b a : Int) : Prop :=
  (b < 0 ∧ ∀ i j, i ∈ S → Sc i j → j < n → j ∈ S) ∨ (∃ a' : Nat, a = a' ∧ a' ∉ S ∧ a' < n ∧ 0 ≤ b ∧ (∃ i, i ∈ S ∧ W i a' = b) ∧ ∀ i j, i ∈ S → Sc i j → j < n → j ∉ S → b ≤ W i j)
theorem J.skip {S : List Nat} {Sc Sc' : Nat → Nat → Prop} {b a : Int} (h : J n W S Sc b a) (hnew : ∀ i j, i ∈ S → Sc' i j → j < n → Sc i j ∨ j ∈ S ∨ (0 ≤ b ∧ b ≤ W i j)) : J n W S Sc' b a := by
  rcases h with ⟨h0, h1⟩ | ⟨a', e, h1, h2, h3, h4, h5⟩
  · refine .inl ⟨h0, fun i j hi hj hn => ?_⟩
    rcases hnew i j hi hj hn with h | h | h
    · exact h1 i j hi h hn
    · exact h
    · omega
  · refine .inr ⟨a', e, h1, h2, h3, h4, fun i j hi hj hn ho => ?_⟩
    rcases hnew i j hi hj hn with h | h | h
    · exact h5 i j hi h hn ho
    · exact absurd h ho
    · exact h.2
theorem J.take {S : List Nat} {Sc Sc' : Nat → Nat → Prop} {b a : Int} (h : J n W S Sc b a) {i j : Nat} (hi : i ∈ S) (hj : j ∉ S) (hn : j < n) (h0 : 0 ≤ W i j) (hlt : b < 0 ∨ W i j < b)
    (hnew : ∀ i' j', i' ∈ S → Sc' i' j' → j' < n → Sc i' j' ∨ j' ∈ S ∨ (i' = i ∧ j' = j)) : J n W S Sc' (W i j) j := by
  refine .inr ⟨j, rfl, hj, hn, h0, ⟨i, hi, rfl⟩, fun i' j' hi' hs hn' ho => ?_⟩
  rcases hnew i' j' hi' hs hn' with h' | h' | ⟨rfl, rfl⟩
  · rcases h with ⟨_, h1⟩ | ⟨a', _, _, _, h3, _, h5⟩
    · exact absurd (h1 i' j' hi' h' hn') ho
    · have := h5 i' j' hi' h' hn' ho
      rcases hlt with hlt | hlt <;> omega
  · exact absurd h' ho
  · exact Int.le_refl _
theorem exists_out {S : List Nat} (hn : S.Nodup) (hS : ∀ i, i ∈ S → i < n) (hl : S.length < n) : ∃ j, j < n ∧ j ∉ S := by
  by_cases h : ∃ j, j < n ∧ j ∉ S
  · exact h
  · have h1 : ∀ r, r ∈ S ↔ r ∈ List.range n := fun r => ⟨fun hr => List.mem_range.2 (hS r hr), fun hr => by
      by_cases hr' : r ∈ S
      · exact hr'
      · exact absurd ⟨r, List.mem_range.1 hr, hr'⟩ h⟩
    have h2 := cnt_nodup hn hS
    have h3 := cnt_nodup (B := n) (L := List.range n) List.nodup_range (fun i hi => List.mem_range.1 hi)
    rw [cnt_congr h1, h3] at h2
    simp at h2; omega
theorem J.final {S : List Nat} {Sc : Nat → Nat → Prop} {b a : Int} (h : J n W S Sc b a) (hn : S.Nodup) (hS : ∀ i, i ∈ S → i < n) (hl : S.length < n) (hne : ∃ i, i ∈ S) (hall : ∀ i j, i ∈ S → j < n → Sc i j) : ∃ a' : Nat, a = a' ∧ MinCross n W S b a' := by
  obtain ⟨j, hj, ho⟩ := exists_out hn hS hl
  obtain ⟨i, hi⟩ := hne
  rcases h with ⟨_, h1⟩ | ⟨a', e, h1, h2, h3, h4, h5⟩
  · exact absurd (h1 i j hi (hall i j hi hj) hj) ho
  · exact ⟨a', e, ⟨h1, h2, h4, fun i j hi hj hn => h5 i j hi (hall i j hi hn) hn hj⟩⟩
end
end Go.Proofs.Ytaapbnhggfmlpaa.A
end
section
set_option linter.unusedVariables false
namespace Go.Proofs.Ytaapbnhggfmlpaa.B
open Go.RowKit Go.Proofs.Ytaapbnhggfmlpaa.P Go.Proofs.YtaapbnhggfmlpaaW.PrintWords Go.Proofs.YtaapbnhggfmlpaaW.PrintLast Go.Proofs.Ytaapbnhggfmlpaa.A
/-! ### the program's loops -/
section
variable (l : List (List Int)) (V : Valid l) (S : List Nat)
def Sc' (p w : Nat) (i j : Nat) : Prop := i < p ∨ (i = p ∧ j < w)
include V
theorem in_J (hS : ∀ i, i ∈ S → i < l.length) (i : Nat) (hi : i < l.length) : ∀ (d w : Nat) (b a : Int), l.length - w = d → w ≤ l.length → J l.length (Wt l) S (Sc' i w) b a →
    J l.length (Wt l) S (Sc' i l.length) (tbIn (up S) i ((l.getD i []).drop w) w b a).1 (tbIn (up S) i ((l.getD i []).drop w) w b a).2 := by
  have n9 := V.le
  have hrow := V.row i hi
  intro d
  induction d with
  | zero =>
    intro w b a hd hw hJ
    obtain rfl : w = l.length := by omega
    rw [List.drop_eq_nil_of_le (by omega)]
    exact hJ
  | succ d ih =>
    intro w b a hd hw hJ
    have hwl : w < l.length := by omega
    have hb := V.bound i w hi hwl
    have keep : ∀ i' j', i' ∈ S → Sc' i (w + 1) i' j' → j' < l.length → Sc' i w i' j' ∨ (i' = i ∧ j' = w) := by
      intro i' j' _ hs _
      rcases hs with h | ⟨e, h⟩
      · exact .inl (.inl h)
      · by_cases e' : j' = w
        · exact .inr ⟨e, e'⟩
        · exact .inl (.inr ⟨e, by omega⟩)
    rw [tbIn_drop _ _ _ _ _ _ (by omega), show (l.getD i []).getD w 0 = Wt l i w from rfl]
    by_cases c : (i : Int) ∈ up S ∧ (w : Int) ∉ up S ∧ (b < 0 ∨ Wt l i w < b)
    · rw [if_pos c]
      exact ih (w + 1) _ _ (by omega) (by omega) (hJ.take ((up_mem S i).1 c.1) (fun h => c.2.1 ((up_mem S w).2 h)) hwl hb.1 c.2.2 (fun i' j' hi' hs hn => (keep i' j' hi' hs hn).elim .inl (fun h => .inr (.inr h))))
    · rw [if_neg c]
      refine ih (w + 1) _ _ (by omega) (by omega) (hJ.skip (fun i' j' hi' hs hn => ?_))
      rcases keep i' j' hi' hs hn with h | ⟨rfl, rfl⟩
      · exact .inl h
      · by_cases m : j' ∈ S
        · exact .inr (.inl m)
        · refine .inr (.inr ?_)
          have h1 := (up_mem S i').2 hi'
          have h2 : (j' : Int) ∉ up S := fun h => m ((up_mem S j').1 h)
          constructor
          · by_cases h : 0 ≤ b
            · exact h
            · exact absurd ⟨h1, h2, .inl (by omega)⟩ c
          · by_cases h : b ≤ Wt l i' j'
            · exact h
            · exact absurd ⟨h1, h2, .inr (by omega)⟩ c
theorem out_J (hS : ∀ i, i ∈ S → i < l.length) : ∀ (d i : Nat) (b a : Int), l.length - i = d → i ≤ l.length → J l.length (Wt l) S (Sc' i 0) b a →
    J l.length (Wt l) S (Sc' l.length 0) (tbOut (up S) (l.drop i) i b a).1 (tbOut (up S) (l.drop i) i b a).2 := by
  intro d
  induction d with
  | zero =>
    intro i b a hd hi hJ
    obtain rfl : i = l.length := by omega
    rw [List.drop_eq_nil_of_le (by omega)]
    exact hJ
  | succ d ih =>
    intro i b a hd hi hJ
    rw [tbOut_drop _ _ _ _ _ (by omega)]
    refine ih (i + 1) _ _ (by omega) (by omega) (J.skip (in_J l V S hS i (by omega) l.length 0 b a rfl (by omega) hJ) (fun i' j' hi' hs hn => ?_))
    rcases hs with h | ⟨_, h⟩
    · by_cases e : i' = i
      · exact .inl (.inr ⟨e, hn⟩)
      · exact .inl (.inl (by omega))
    · omega
end

theorem impl0 (l : List (List Int)) (V : Valid l) : ∀ (d : Nat) (S : List Nat) (s : Int) (k : Nat), l.length - S.length = d → d < k → S.Nodup → (∀ i, i ∈ S → i < l.length) → S.length ≤ l.length → 0 ∈ S → 0 ≤ s → s ≤ 1000 * S.length →
    ∃ r, tbRun l k (up S) s = some r ∧ Prim l.length (Wt l) S s r := by
  have n9 := V.le
  intro d
  induction d with
  | zero =>
    intro S s k hd hk hn hS hl h0 hs0 hs1
    obtain ⟨k, rfl⟩ : ∃ m, k = m + 1 := ⟨k - 1, by omega⟩
    refine ⟨s, ?_, .done (by omega)⟩
    simp only [tbRun]
    rw [if_neg (by rw [up_length]; omega)]
  | succ d ih =>
    intro S s k hd hk hn hS hl h0 hs0 hs1
    obtain ⟨k, rfl⟩ : ∃ m, k = m + 1 := ⟨k - 1, by omega⟩
    have hJ := out_J l V S hS l.length 0 (-1) 0 rfl (by omega) (.inl ⟨by omega, fun i j hi hs hj => by rcases hs with h | ⟨_, h⟩ <;> omega⟩)
    rw [List.drop_zero] at hJ
    obtain ⟨a', e, hm⟩ := hJ.final hn hS (by omega) ⟨0, h0⟩ (fun i j hi _ => .inl (hS i hi))
    have hb : 0 ≤ (tbOut (up S) l 0 (-1) 0).1 ∧ (tbOut (up S) l 0 (-1) 0).1 ≤ 1000 := by
      obtain ⟨i, hi, e⟩ := hm.edge
      have := V.bound i a' (hS i hi) hm.lt
      rw [show (0 : Int) = ((0 : Nat) : Int) from rfl] at *
      omega
    have ha := hm.lt
    have hn' : (a' :: S).Nodup := List.nodup_cons.2 ⟨hm.out, hn⟩
    obtain ⟨r, he, hp⟩ := ih (a' :: S) (s + (tbOut (up S) l 0 (-1) 0).1) k (by simp; omega) (by omega) hn' (fun i hi => by
      rcases List.mem_cons.1 hi with rfl | hi
      · exact hm.lt
      · exact hS i hi) (by simp; omega) (by simp [h0]) (by omega) (by simp; omega)
    refine ⟨r, ?_, .step (by omega) hm (fun v => List.mem_cons) hn' hp⟩
    simp only [tbRun]
    rw [if_pos (by rw [up_length]; omega), show (tbOut (up S) l 0 (-1) 0).2 = (a' : Int) from e, if_neg, w64 (by omega)]
    · exact he
    · rintro (h | h)
      · exact hm.out ((up_mem S a').1 h)
      · rw [WalkArith.wf_i64 (by omega)] at h; cases h


open Classical in
theorem impl_TB (l : List (List Int)) (V : Valid l) : ∃ t, impl_TreeBound.f l = some (t, true) ∧ Prim l.length (Wt l) [0] 0 t := by
  obtain ⟨r', h3, h4⟩ := impl0 l V (l.length - 1) [0] 0 12 (by simp) (by have := V.le; omega) (by simp) (by simp; exact V.pos) (by simp; exact V.pos) (by simp) (by omega) (by simp)
  refine ⟨r', ?_, h4⟩
  unfold impl_TreeBound.f
  rw [validBundle l 300 (by omega), decide_eq_true V]
  simp only [Option.bind_some, if_true]
  rw [show [(0 : Int)] = up [0] from rfl, h3]
  rfl
end Go.Proofs.Ytaapbnhggfmlpaa.B
end
section
set_option linter.unusedVariables false
namespace Go.Proofs.Ytaapbnhggfmlpaa.Pure
open Go.RowKit Go.Proofs.Ytaapbnhggfmlpaa.P Go.Proofs.YtaapbnhggfmlpaaW.PrintWords Go.Proofs.YtaapbnhggfmlpaaW.PrintLast Go.Proofs.Ytaapbnhggfmlpaa.A Go.Proofs.Ytaapbnhggfmlpaa.B
theorem before0 (xs ys : List Nat) (hm : xs.length ≤ 1000) (hl : xs.length = ys.length) : ∀ (d i k : Nat), xs.length - i = d → i ≤ xs.length → 2 * d + 2 ≤ k → lexLE (ys.drop i) (xs.drop i) → laws_r8Before.l0 k (up xs) (up ys) i = some false := by
  intro d
  induction d with
  | zero =>
    intro i k hd hi hk hx
    obtain ⟨k, rfl⟩ : ∃ m, k = m + 2 := ⟨k - 2, by omega⟩
    simp only [laws_r8Before.l0, laws_r8Before.j1]
    rw [if_neg (by rw [up_length]; omega)]
    simp
  | succ d ih =>
    intro i k hd hi hk hx
    obtain ⟨k, rfl⟩ : ∃ m, k = m + 2 := ⟨k - 2, by omega⟩
    have hlt : i < xs.length := by omega
    have hlt' : i < ys.length := by omega
    rw [List.drop_eq_getElem_cons hlt, List.drop_eq_getElem_cons hlt'] at hx
    have e1 : (up xs).getD i 0 = (xs[i] : Int) := by rw [up_getD_any]; simp [List.getD_eq_getElem?_getD, hlt]
    have e2 : (up ys).getD i 0 = (ys[i] : Int) := by rw [up_getD_any]; simp [List.getD_eq_getElem?_getD, hlt']
    simp only [laws_r8Before.l0, laws_r8Before.j1]
    rw [if_pos (by rw [up_length]; omega), if_pos (by rw [decide_eq_true_eq, up_length]; omega), if_pos (by omega), if_pos (by rw [up_length]; omega), if_pos (by rw [up_length]; omega), rd_nat, rd_nat, e1, e2]
    rcases hx with h | ⟨h, hx⟩
    · rw [if_neg (by omega), decide_eq_false (by omega)]
    · rw [if_pos (by omega), w64s hlt (by omega)]
      exact ih (i + 1) k (by omega) (by omega) (by omega) hx
theorem pathC_sum (W : Nat → Nat → Int) : ∀ (r : List Nat) (a : Nat), pathC W a (r.map fun i => (i, false)) = pathSum W (a :: r)
  | [], a => rfl
  | b :: r, a => by
    have := pathC_sum W r b
    simp only [List.map_cons, pathC, pathSum, Bool.false_eq_true, if_false]
    rw [this]
theorem tree_le {l : List (List Int)} (V : Valid l) {t : Int} (h : Prim l.length (Wt l) [0] 0 t) {a : Nat} {r : List Nat} (hO : OrdN l.length (a :: r)) : t ≤ pathC (Wt l) a (r.map fun i => (i, false)) := by
  have hb := V.bound
  have ha : a < l.length := hO.lt a (List.mem_cons_self ..)
  have h1 := h.value V.sym hb (by simp) (by simp; exact V.pos)
  have h2 := path_ge (W := Wt l) hb r a [a] (by simp) (by simpa using ha) (fun i hi => hO.lt i (List.mem_cons_of_mem _ hi))
  have hf := full_of_nodup hO.nd hO.lt hO.len
  have e : (fun t => (cl l.length (Wt l) t (r.reverse ++ [a]) : Int) - cl l.length (Wt l) t [a]) = fun t => (cl l.length (Wt l) t (List.range l.length) : Int) - cl l.length (Wt l) t [0] := by
    funext t
    rw [cl_one ha, cl_one V.pos, cl_full (S' := List.range l.length) fun v => by rw [← hf v]; simp [or_comm]]
  rw [e] at h2
  rw [pathC_sum]
  omega
theorem r8At_ok {s : List Int} (hs : Bytes s) (n : Nat) : ∃ c : Nat, laws_r8At.f s 40 n = some (c : Int) ∧ (c = 0 ∨ c < n) := by
  unfold laws_r8At.f
  by_cases c1 : (n : Int) ≤ 1
  · rw [if_pos c1]
    exact ⟨0, rfl, .inl rfl⟩
  · rw [if_neg c1]
    by_cases c2 : (40 : Int) ≥ (s.length : Int)
    · rw [if_pos c2]
      exact ⟨0, rfl, .inl rfl⟩
    · rw [if_neg c2, if_pos (by omega), if_pos (by omega), if_neg (by omega)]
      have hr : 0 ≤ rd s 40 ∧ rd s 40 ≤ 255 := hs.2 _ (getD_mem (by omega))
      rw [w64 (by omega)]
      have h1 := Int.tmod_nonneg (n : Int) hr.1
      have h2 := Int.tmod_lt_of_pos (rd s 40) (show (0 : Int) < n by omega)
      exact ⟨(Int.tmod (rd s 40) n).toNat, by rw [Int.toNat_of_nonneg h1], .inr (by omega)⟩
theorem FnOrders : laws_FnOrders.Pure := by
  intro l0 l1 _ _ hw0 _ _ hw1
  obtain ⟨K, hK⟩ : ∃ K : Nat, 60000 ≤ K := ⟨_, Nat.le_refl _⟩
  refine ⟨K + 1, ?_⟩
  unfold laws_FnOrders.f laws_r8Long.f
  by_cases c0 : (l0.length : Int) > 48
  · rw [if_pos c0]; rfl
  rw [if_neg c0]
  by_cases c1 : (l1.length : Int) > 48
  · simp [c1]
  simp only [c1, decide_false, Option.bind_some, Bool.false_eq_true, if_false]
  obtain ⟨l, hl, V, h6⟩ := r8Bundle (bytes_of (by omega) hw0) (K + 1) (by omega)
  have hn := V.le
  have hn1 := V.pos
  obtain ⟨ys, hy, hO⟩ := r8Order (bytes_of (by omega) hw1) l.length hn hn1 (K + 1) (by omega)
  obtain ⟨s, hs, hs1⟩ := r8At_ok (bytes_of (by omega) hw1) l.length
  have hs2 : s + 1 ≤ l.length := by omega
  obtain ⟨os, rfl, hos⟩ := hO.nat
  obtain ⟨a, rest, rfl⟩ : ∃ a rest, os = a :: rest := by
    cases os with
    | nil => have := hos.len; simp at this; omega
    | cons a rest => exact ⟨a, rest, rfl⟩
  obtain ⟨w, p, c, g1, g2, g3, g4⟩ := bestOrder V s hs2
  have ho := cmp_ord g2 g3
  obtain ⟨hc, ht⟩ := g3.cost
  obtain ⟨sh, own, b1, b2, b3, b4, b5, b6⟩ := bestShields V h6 ho s hs2 (K + 1) (by omega)
  obtain ⟨sh2, other, d1, d2, d3, d4, d5, d6⟩ := bestShields V h6 hos s hs2 (K + 1) (by omega)
  obtain ⟨t, tr1, tr3⟩ := impl_TB l V
  have hlen := ho.len
  have hshl : sh.length ≤ 1000 := by omega
  have e1 : own = c := by
    have h1 := b6 p rfl ht.symm
    have h2 := (g4 w (fl sh 1 (p.map Prod.fst)) (by rw [fl_fst]; exact ho) b5).1
    omega
  have e2 : c ≤ other := by
    have h2 := (g4 a (fl sh2 1 rest) (by rw [fl_fst]; exact hos) d5).1
    omega
  obtain ⟨bl, hbl, hbl2⟩ := isLayout V (up (w :: p.map Prod.fst)) sh (by rw [up_length]; omega) (by omega) b3 (K + 1) (by rw [up_length]; omega)
  rw [hl]
  simp only [Option.bind_some]
  rw [hs]
  simp only [Option.bind_some]
  rw [g1]
  simp only [Option.bind_some]
  rw [b1]
  simp only [Option.bind_some]
  rw [couplingOf V sh hshl b3 ho (K + 1) (by omega), ← b4]
  simp only [Option.bind_some]
  rw [hy]
  simp only [Option.bind_some]
  rw [d1]
  simp only [Option.bind_some]
  rw [tr1]
  simp only [Option.bind_some, if_true]
  rw [if_pos e1, if_neg (by omega), if_pos (by omega), vb_true V (K + 1) (by omega)]
  simp only [Option.bind_some, if_true]
  rw [hbl, hbl2.2 ho.ord]
  simp only [Option.bind_some, laws_FnOrders.j0, Bool.not_true, Bool.false_eq_true, if_false]
  have hfin : (if (s : Int) > 0 then some true else some (decide (t ≤ c))) = some true := by
    by_cases c3 : (s : Int) > 0
    · rw [if_pos c3]
    · rw [if_neg c3]
      have hs0 : trues p = 0 := by omega
      have := tree_le V tr3 ho
      rw [← trues_zero p hs0, ← hc] at this
      rw [decide_eq_true this]
  by_cases c4 : other = c
  · rw [if_pos c4]
    have hx := (g4 a (fl sh2 1 rest) (by rw [fl_fst]; exact hos) d5).2 (by rw [← d4]; exact c4)
    rw [fl_fst] at hx
    have hl2 := hos.len
    unfold laws_r8Before.f
    have := before0 (a :: rest) (w :: p.map Prod.fst) (by omega) (by omega) (a :: rest).length 0 K (by omega) (by omega) (by omega) (by simpa using hx)
    rw [show (0 : Int) = ((0 : Nat) : Int) from rfl, this]
    simp only [Option.bind_some, Bool.false_eq_true, if_false]
    exact hfin
  · rw [if_neg c4]
    exact hfin
end Go.Proofs.Ytaapbnhggfmlpaa.Pure
end
section
namespace Go.Proofs.Ytaapbnhggfmlpaa.fnOrders
open Go.ChangeShapes Go.WideShapes Go.ChangeAt Go.RowKit
open Go.ChangeMaps (open_string shut_string)
set_option linter.unusedVariables false
theorem own : ownKnob Try.prog.godebug = none := by kernel_rfl
theorem laidOut : laidOutB Try.prog = true := by kernel_rfl
def IsRow (k : IntKind) (w : World) (a : Option Addr) (len cap : Nat) (zs : List Int) : Prop :=
  (a = none ∧ len = 0 ∧ cap = 0 ∧ zs = []) ∨
  ∃ x, a = some x ∧ len ≤ cap ∧ cap ≤ maxLen ∧ zs.length = cap ∧ (∀ i, i < zs.length → w.cell? (x.add i) = some (.int k (zs.getD i 0))) ∧ ∀ n ∈ zs, (Lit.int k n).wf = true
set_option maxRecDepth 100000 in
theorem lifted (os : Os) (started : os.Started) (H : Type) (enc : TypeId × Value → H) :
    ReturnsInHanded {} Try.checked os 10 .any (Rows.fnOrdersSpec.pre6 enc Try.prog Try.f10 Rows.fnOrdersRow.domain false) (Rows.fnOrdersSpec.post enc Try.prog Try.f10 false true false false) := by
  refine returnsInHanded_of_change_sized (C := Try.checked) own started (by kernel_rfl) Try.func10
    (ChangeSpec.witness6 (enc := enc) (C := Try.checked) false ⟨#[], #[.slice none 0 0, .slice none 0 0], []⟩ 8 (by kernel_rfl) (by kernel_rfl) (by kernel_rfl) (by kernel_rfl)) ?_
  intro W base args ds gs before hval0 hW hcnd hsz0 _
  have hsz : (DataW.weightsEach Try.prog (Try.f10.params.toList ++ Rows.fnOrdersSpec.plain.varTypes Try.prog) (ds ++ gs)).all (· ≤ reachBytes) = true := hsz0
  have hval : ∀ (j : Nat) t v, Try.f10.params[j]? = some t → args[j]? = some v → Value.okWide Try.prog W .any base t v := hval0
  have hW' := hW
  obtain ⟨p, q, hA0, hV, rfl, hfz, hnd⟩ := hW
  have hA : DataW.TrodAll enc Try.prog W 0 (fun _ => true) true Try.f10.params.toList args.toList ds p := hA0
  rw [Try.params10] at hA hval hsz
  obtain ⟨v0, vs0, d0, ds0, p0, q0, hargs, rfl, rfl, h0, r0⟩ := trodAll_cons hA
  obtain ⟨v1, vs1, d1, ds1, p1, q1, rfl, rfl, rfl, h1, r1⟩ := trodAll_cons r0
  obtain ⟨rfl, rfl, rfl⟩ := trodAll_nil r1
  obtain rfl : args = #[v0, v1] := by cases args; simp_all
  obtain ⟨rfl, rfl⟩ := trodVars_none hV
  obtain ⟨a0, len0, cap0, rfl⟩ := okWide_slice Try.underlying22 (hval 0 22 v0 rfl rfl)
  have k0 := h0
  have lt0 : ∀ x ∈ p0, x.block < W.heap.size := by obtain ⟨m, hm⟩ := k0; exact DataW.trod_lt m _ _ _ hm
  obtain ⟨z0, w0⟩ : ∃ zs, IsRow .u8 W a0 len0 cap0 zs := by
    obtain ⟨fuel, hf⟩ := h0
    rcases open_ints Try.underlying22 Try.underlying5 (by kernel_rfl) hf with ⟨hcs, _⟩ | ⟨x, l, c, zs, hcs, _, hl, hm, hz, _, hcell, hwz⟩
    · simp [Value.cells] at hcs
      obtain ⟨rfl, rfl, rfl⟩ := hcs
      exact ⟨[], .inl ⟨rfl, rfl, rfl, rfl⟩⟩
    · simp [Value.cells] at hcs
      obtain ⟨rfl, rfl, rfl⟩ := hcs
      exact ⟨zs, .inr ⟨_, rfl, hl, hm, by simpa using hz, hcell, hwz⟩⟩
  have y0 : len0 * 1 ≤ 140737488351232 := YtaapbnhggfmlpaaW.PrintWords.sized_ints hsz (j := 0) (t := 22) rfl rfl Try.underlying22 Try.underlying5 (by kernel_rfl) (by kernel_rfl) h0
  obtain ⟨a1, len1, cap1, rfl⟩ := okWide_slice Try.underlying22 (hval 1 22 v1 rfl rfl)
  have k1 := h1
  have lt1 : ∀ x ∈ p1, x.block < W.heap.size := by obtain ⟨m, hm⟩ := k1; exact DataW.trod_lt m _ _ _ hm
  obtain ⟨z1, w1⟩ : ∃ zs, IsRow .u8 W a1 len1 cap1 zs := by
    obtain ⟨fuel, hf⟩ := h1
    rcases open_ints Try.underlying22 Try.underlying5 (by kernel_rfl) hf with ⟨hcs, _⟩ | ⟨x, l, c, zs, hcs, _, hl, hm, hz, _, hcell, hwz⟩
    · simp [Value.cells] at hcs
      obtain ⟨rfl, rfl, rfl⟩ := hcs
      exact ⟨[], .inl ⟨rfl, rfl, rfl, rfl⟩⟩
    · simp [Value.cells] at hcs
      obtain ⟨rfl, rfl, rfl⟩ := hcs
      exact ⟨zs, .inr ⟨_, rfl, hl, hm, by simpa using hz, hcell, hwz⟩⟩
  have y1 : len1 * 1 ≤ 140737488351232 := YtaapbnhggfmlpaaW.PrintWords.sized_ints hsz (j := 1) (t := 22) rfl rfl Try.underlying22 Try.underlying5 (by kernel_rfl) (by kernel_rfl) h1
  clear hA0 hval0 hsz0 hsz
  refine (P.laws_FnOrders.walk Pure.FnOrders a0 len0 cap0 z0 a1 len1 cap1 z1 W w0 y0 w1 y1).mono fun e W' ⟨he, bel⟩ => ?_
  subst he
  exact ⟨_, rfl, _, _, _, [], _, [], hW', trodAll_mk1 (shut_bool Try.underlying4 _), (trodAll_cons_mk (Below.trod laidOut (by kernel_rfl) (of_decide_eq_true (by kernel_rfl)) k0 bel lt0) (trodAll_cons_mk (Below.trod laidOut (by kernel_rfl) (of_decide_eq_true (by kernel_rfl)) k1 bel lt1) trodAll_mk0)), rfl, bel.frame _, fun h => by cases h⟩
theorem over : Rows.fnOrdersRow.holds Try.pinned (OpenSpec.ofChange Rows.fnOrdersSpec) :=
  OpenClaim.holds_of_wide 10 Try.f10 rfl rfl rfl rfl rfl rfl rfl ⟨rfl, rfl, rfl, rfl, rfl⟩ rfl rfl rfl rfl rfl (by kernel_rfl) Try.func10 (by kernel_rfl)
    (of_decide_eq_true (by kernel_rfl)) (by unfold Func.isWrapper; first | (rw [if_pos (by decide +kernel)]; kernel_rfl) | (rw [if_neg (by decide +kernel)]; exact ⟨rfl, rfl⟩))
    (fun os started H enc _ => lifted os started H enc)
theorem proved : Rows.FnOrdersSaid := over
#print axioms proved
end Go.Proofs.Ytaapbnhggfmlpaa.fnOrders
namespace Go.Proofs.Ytaapbnhggfmlpaa
/-- The row, under a short name, for the claim. -/
theorem fnOrders_holds : Rows.FnOrdersSaid := fnOrders.proved
end Go.Proofs.Ytaapbnhggfmlpaa
end
