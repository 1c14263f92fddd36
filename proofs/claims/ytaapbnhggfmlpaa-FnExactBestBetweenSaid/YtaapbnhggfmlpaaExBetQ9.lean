/- The law FnExactBestBetween holds for every input. -/
import Derived.Test.YtaapbnhggfmlpaaExBetQ1
import Derived.Test.YtaapbnhggfmlpaaExBetQ8
import Derived.Test.YtaapbnhggfmlpaaExBetQ4
import Derived.Test.YtaapbnhggfmlpaaExBetQ6
import Derived.Test.YtaapbnhggfmlpaaExBetQ7
import Derived.Test.YtaapbnhggfmlpaaExBetQ2
import Derived.Deep.Matrix
import Derived.Lib.SmallJoins
import Derived.Test.YtaapbnhggfmlpaaRows
import Derived.WalkKit
import Derived.ProofKit
import Derived.OpenShut
import Derived.ShutString
import Derived.ChangeOld
import Derived.Below
import Derived.SizedLaws
section
namespace Go.Proofs.Ytaapbnhggfmlpaa.P
open Go.RowKit Go.Proofs.YtaapbnhggfmlpaaW.PrintWords Go.Proofs.YtaapbnhggfmlpaaW.PrintLast Go.Proofs.YtaapbnhggfmlpaaW.PrintMore
attribute [local go_sem] max2_int min2_int max_two min_two max_three min_three max_four min_four   -- for this text's walks alone
set_option linter.unusedVariables false
set_option linter.unusedSimpArgs false
def impl_Bundle_coupling.l0 : Nat → List Int → List Int → Int → Int → Int → List (List Int) → Option (Int)
 | 0, _, _, _, _, _, _ => none
 | k + 1, x1, x2, x7, x11, x12, x1000 => if x12 < x11 then ((slices_Contains_int64_int64.f k x2 (wrap64 (x12 + 1))).bind fun t704 => (if t704 = true then (impl_Bundle_coupling.l0 k x1 x2 x7 x11 (wrap64 (x12 + 1)) x1000) else ((impl_Bundle_weight.f x1000 x1 x12).bind fun t705 => (impl_Bundle_coupling.l0 k x1 x2 (wrap64 (x7 + t705)) x11 (wrap64 (x12 + 1)) x1000)))) else (some x7)
def impl_Bundle_coupling.f (k : Nat) (l0_0 : List (List Int)) (l1 : List Int) (l2 : List Int) : Option (Int) := impl_Bundle_coupling.l0 k l1 l2 0 (wrap64 ((l1.length : Int) - 1)) 0 l0_0
end Go.Proofs.Ytaapbnhggfmlpaa.P
end
section
namespace Go.Proofs.Ytaapbnhggfmlpaa.P
open Go.RowKit Go.Proofs.YtaapbnhggfmlpaaW.PrintWords Go.Proofs.YtaapbnhggfmlpaaW.PrintLast Go.Proofs.YtaapbnhggfmlpaaW.PrintMore
attribute [local go_sem] max2_int min2_int max_two min_two max_three min_three max_four min_four   -- for this text's walks alone
set_option linter.unusedVariables false
set_option linter.unusedSimpArgs false
end Go.Proofs.Ytaapbnhggfmlpaa.P
end
section
set_option linter.unusedVariables false
namespace Go.Proofs.Ytaapbnhggfmlpaa.B
open Go.RowKit Go.Proofs.Ytaapbnhggfmlpaa.P Go.Proofs.YtaapbnhggfmlpaaW.PrintWords Go.Proofs.YtaapbnhggfmlpaaW.PrintLast Go.Proofs.YtaapbnhggfmlpaaW.PrintMore Go.Proofs.Ytaapbnhggfmlpaa.A
/-- An order as a list of wires. -/
structure OrdN (n : Nat) (os : List Nat) : Prop where
  len : os.length = n
  nd : os.Nodup
  lt : ∀ v ∈ os, v < n
theorem up_getD_any (S : List Nat) (i : Nat) : (up S).getD i 0 = ((S.getD i 0 : Nat) : Int) := by
  unfold up
  simp only [List.getD_eq_getElem?_getD, List.getElem?_map]
  cases S[i]? <;> simp
theorem index0 (xs : List Int) (a : Int) (hl : xs.length ≤ 1048576) : ∀ (d k i : Nat), xs.length - i = d → d < k → i ≤ xs.length → ∃ r, slices_Index_int64_int64.l0 k xs a xs.length i = some r ∧ (0 ≤ r ↔ a ∈ xs.drop i) := by
  intro d
  induction d with
  | zero =>
    intro k i hd hk hi
    obtain ⟨k, rfl⟩ : ∃ m, k = m + 1 := ⟨k - 1, by omega⟩
    simp only [slices_Index_int64_int64.l0]
    rw [if_neg (by omega)]
    refine ⟨-1, rfl, ?_⟩
    rw [List.drop_eq_nil_of_le (by omega)]
    simp
  | succ d ih =>
    intro k i hd hk hi
    obtain ⟨k, rfl⟩ : ∃ m, k = m + 1 := ⟨k - 1, by omega⟩
    simp only [slices_Index_int64_int64.l0]
    have hlt : i < xs.length := by omega
    rw [if_pos (by omega), if_pos (by omega), if_pos (by omega), rd_nat]
    rw [List.drop_eq_getElem_cons hlt]
    have e : xs.getD i 0 = xs[i] := by simp [List.getD_eq_getElem?_getD, hlt]
    rw [e]
    by_cases c : a = xs[i]
    · rw [if_pos c]
      exact ⟨i, rfl, ⟨fun _ => by rw [List.mem_cons]; exact .inl c, fun _ => by omega⟩⟩
    · rw [if_neg c, w64s hlt (by omega)]
      obtain ⟨r, hr, h⟩ := ih k (i + 1) (by omega) (by omega) (by omega)
      exact ⟨r, hr, h.trans ⟨fun h => List.mem_cons_of_mem _ h, fun h => (List.mem_cons.1 h).resolve_left c⟩⟩
theorem contains (xs : List Int) (a : Int) (hl : xs.length ≤ 1048576) (k : Nat) (hk : xs.length < k) : slices_Contains_int64_int64.f k xs a = some (decide (a ∈ xs)) := by
  unfold slices_Contains_int64_int64.f slices_Index_int64_int64.f
  obtain ⟨r, hr, h⟩ := index0 xs a hl xs.length k 0 rfl hk (by omega)
  rw [show (0 : Int) = ((0 : Nat) : Int) from rfl, hr]
  rw [List.drop_zero] at h
  simp only [Option.bind_some]
  congr 1
  rw [decide_eq_decide]
  exact h
section
variable {l : List (List Int)} (V : Valid l)
include V
end
/-- The wires that follow, each with whether a shield stands ahead of it. -/
def fl (sh : List Int) : Nat → List Nat → List (Nat × Bool)
  | _, [] => []
  | j, i :: r => (i, decide ((j : Int) ∈ sh)) :: fl sh (j + 1) r
theorem weight {l : List (List Int)} (V : Valid l) {os : List Nat} (hlt : ∀ v ∈ os, v < l.length) (i : Nat) (hi : i + 1 < os.length) (hm : os.length ≤ 1048576) : impl_Bundle_weight.f l (up os) i = some (Wt l (os.getD i 0) (os.getD (i + 1) 0)) := by
  have a1 := hlt (os.getD i 0) (getD_mem (by omega))
  have a2 := hlt (os.getD (i + 1) 0) (getD_mem (by omega))
  have hr := V.row (os.getD i 0) a1
  unfold impl_Bundle_weight.f
  rw [if_pos (by omega), if_pos (by rw [up_length]; omega), rd_nat, up_getD_any, if_pos (by omega), if_pos (by omega), w64 (by omega), show (i : Int) + 1 = ((i + 1 : Nat) : Int) by omega, if_pos (by omega), if_pos (by rw [up_length]; omega), rd_nat, up_getD_any, if_pos (by omega), rdL_nat, hr, if_pos (by omega), rd_nat]
  rfl
theorem coupling0 {l : List (List Int)} (V : Valid l) (sh : List Int) (hs : sh.length ≤ 1048576) (os : List Nat) (hlt : ∀ v ∈ os, v < l.length) (hm : os.length ≤ 9) : ∀ (rest : List Nat) (a i k : Nat) (acc : Int), os.drop i = a :: rest → rest.length + sh.length + 2 ≤ k → 0 ≤ acc → acc ≤ 1000 * i →
    impl_Bundle_coupling.l0 k (up os) sh acc (wrap64 ((up os).length - 1)) i l = some (acc + pathC (Wt l) a (fl sh (i + 1) rest)) := by
  intro rest
  induction rest with
  | nil =>
    intro a i k acc hd hk h0 h1
    obtain ⟨k, rfl⟩ : ∃ m, k = m + 1 := ⟨k - 1, by omega⟩
    have hlen : os.length = i + 1 := by
      have := congrArg List.length hd
      simp at this
      omega
    simp only [impl_Bundle_coupling.l0]
    rw [up_length, w64 (by omega), if_neg (by omega)]
    simp [fl, pathC]
  | cons b rest ih =>
    intro a i k acc hd hk h0 h1
    obtain ⟨k, rfl⟩ : ∃ m, k = m + 1 := ⟨k - 1, by omega⟩
    have hlen : i + 1 < os.length := by
      have := congrArg List.length hd
      simp at this
      omega
    have hd' : os.drop (i + 1) = b :: rest := by
      rw [← List.drop_drop, hd]
      rfl
    have ea : os.getD i 0 = a := by
      have := congrArg (fun x => x.getD 0 0) hd
      simpa [List.getD_eq_getElem?_getD] using this
    have eb : os.getD (i + 1) 0 = b := by
      have := congrArg (fun x => x.getD 0 0) hd'
      simpa [List.getD_eq_getElem?_getD] using this
    have hb := V.bound a b (by rw [← ea]; exact hlt _ (getD_mem (by omega))) (by rw [← eb]; exact hlt _ (getD_mem (by omega)))
    simp only [List.length_cons] at hk
    have e1 : ((i : Int) + 1) = ((i + 1 : Nat) : Int) := by omega
    conv => lhs; unfold impl_Bundle_coupling.l0
    rw [if_pos (by rw [up_length, w64 (by omega)]; omega), w64 (x := (i : Int) + 1) (by omega), e1, contains sh _ hs k (by omega)]
    simp only [Option.bind_some]
    by_cases c : ((i + 1 : Nat) : Int) ∈ sh
    · rw [decide_eq_true c]
      simp only [if_true]
      rw [ih b (i + 1) k acc hd' (by omega) h0 (by omega)]
      simp only [fl, pathC]
      rw [decide_eq_true c]
      simp
    · rw [decide_eq_false c]
      simp only [Bool.false_eq_true, if_false]
      rw [weight V hlt i hlen (by omega), ea, eb]
      simp only [Option.bind_some]
      rw [w64 (by omega), ih b (i + 1) k (acc + Wt l a b) hd' (by omega) (by omega) (by omega)]
      simp only [fl, pathC]
      rw [decide_eq_false c]
      simp only [Bool.false_eq_true, if_false, Option.some.injEq]
      omega
theorem coupling {l : List (List Int)} (V : Valid l) (sh : List Int) (hs : sh.length ≤ 1048576) {a : Nat} {rest : List Nat} (hO : OrdN l.length (a :: rest)) (k : Nat) (hk : sh.length + 20 ≤ k) :
    impl_Bundle_coupling.f k l (up (a :: rest)) sh = some (pathC (Wt l) a (fl sh 1 rest)) := by
  unfold impl_Bundle_coupling.f
  have hlen := hO.len
  have hn := V.le
  simp only [List.length_cons] at hlen
  have := coupling0 V sh hs (a :: rest) hO.lt (by simp; omega) rest a 0 k 0 rfl (by omega) (by omega) (by omega)
  simpa using this
end Go.Proofs.Ytaapbnhggfmlpaa.B
end
section
set_option linter.unusedVariables false
namespace Go.Proofs.Ytaapbnhggfmlpaa.B
open Go.RowKit Go.Proofs.Ytaapbnhggfmlpaa.P Go.Proofs.YtaapbnhggfmlpaaW.PrintWords Go.Proofs.YtaapbnhggfmlpaaW.PrintLast Go.Proofs.YtaapbnhggfmlpaaW.PrintMore Go.Proofs.Ytaapbnhggfmlpaa.A
theorem ucnt_empty : ∀ n, ucnt n 0 = n := by
  intro n
  induction n with
  | zero => rfl
  | succ n ih => rw [ucnt_succ, ih]; simp
theorem ucnt_one {n a : Nat} (ha : a < n) : ucnt n (2 ^ a) + 1 = n := by
  have h := ucnt_or n 0 a (by simp)
  rw [if_pos ha, Nat.zero_or, ucnt_empty] at h
  exact h
theorem tb_pow {a i : Nat} (h : i ≠ a) : (2 ^ a).testBit i = false := by
  rw [Nat.testBit_two_pow]
  simp
  exact fun e => h e.symm
section
variable {n : Nat} {W : Nat → Nat → Int} {fin : Int}
theorem cmp_ord {a S : Nat} {p : List (Nat × Bool)} {c : Int} (ha : a < n) (h : Cmp n W fin (2 ^ a) a S p c) : OrdN n (a :: p.map Prod.fst) := by
  have h1 := h.len
  have h2 := ucnt_one ha
  obtain ⟨h3, h4⟩ := h.nodup
  refine ⟨by simp; omega, List.nodup_cons.2 ⟨fun hm => ?_, h3⟩, fun v hv => ?_⟩
  · have := (h4 a hm).2
    simp [Nat.testBit_two_pow_self] at this
  · rcases List.mem_cons.1 hv with rfl | hv
    · exact ha
    · exact (h4 v hv).1
theorem ord_cmp {a : Nat} {p : List (Nat × Bool)} (h : OrdN n (a :: p.map Prod.fst)) (hf : fin < 0 ∨ (((p.map Prod.fst).getLastD a : Nat) : Int) = fin) : Cmp n W fin (2 ^ a) a (trues p) p (pathC W a p) := by
  have ha : a < n := h.lt a (List.mem_cons_self ..)
  obtain ⟨h1, h2⟩ := List.nodup_cons.1 h.nd
  have h3 := h.len
  have h4 := ucnt_one ha
  refine Cmp.of p (2 ^ a) a (Nat.pow_lt_pow_right (by decide) ha) h2 (fun i hi => ⟨h.lt i (List.mem_cons_of_mem _ hi), tb_pow fun e => h1 (e ▸ hi)⟩) (by simp at h3; omega) hf
end
theorem plain_fst (r : List Nat) : (r.map fun i => (i, false)).map Prod.fst = r := by
  rw [List.map_map]
  exact List.map_id' r
theorem plain_trues : ∀ (r : List Nat), trues (r.map fun i => (i, false)) = 0
  | [] => rfl
  | i :: r => by have := plain_trues r; simp [trues] at this ⊢
section
variable {l : List (List Int)} (V : Valid l)
include V
open Classical in
theorem vb_true (k : Nat) (hk : 250 ≤ k) : impl_ValidBundle.f k l = some true := by
  rw [validBundle l k hk, decide_eq_true V]
omit V in
theorem between_ord {f la : Nat} (hf : f < l.length) (hl : la < l.length) (h : f = la ↔ l.length = 1) : ∃ r, OrdN l.length (f :: r) ∧ r.getLastD f = la := by
  by_cases e : f = la
  · have hn := h.1 e
    refine ⟨[], ⟨by simp [hn], by simp, fun v hv => ?_⟩, by simpa using e⟩
    obtain rfl := List.mem_singleton.1 hv
    exact hf
  · refine ⟨(List.range l.length).filter (fun i => decide (i ≠ f ∧ i ≠ la)) ++ [la], ?_, ?_⟩
    · have hnd : (f :: ((List.range l.length).filter (fun i => decide (i ≠ f ∧ i ≠ la)) ++ [la])).Nodup := by
        refine List.nodup_cons.2 ⟨fun hm => ?_, ?_⟩
        · rcases List.mem_append.1 hm with hm | hm
          · have := (List.mem_filter.1 hm).2
            simp at this
          · exact e (List.mem_singleton.1 hm)
        · rw [List.nodup_append]
          refine ⟨List.nodup_range.filter _, by simp, fun x hx y hy => ?_⟩
          obtain rfl := List.mem_singleton.1 hy
          have := (List.mem_filter.1 hx).2
          simp at this
          exact this.2
      have hm : ∀ a, a ∈ f :: ((List.range l.length).filter (fun i => decide (i ≠ f ∧ i ≠ la)) ++ [la]) ↔ a ∈ List.range l.length := by
        intro a
        rw [List.mem_cons, List.mem_append, List.mem_filter, List.mem_singleton, List.mem_range]
        constructor
        · rintro (rfl | ⟨h, _⟩ | rfl)
          · exact hf
          · exact h
          · exact hl
        · intro h
          by_cases h1 : a = f
          · exact .inl h1
          · by_cases h2 : a = la
            · exact .inr (.inr h2)
            · exact .inr (.inl ⟨h, by simp [h1, h2]⟩)
      have hp := (List.perm_ext_iff_of_nodup hnd List.nodup_range).2 hm
      exact ⟨by rw [hp.length_eq]; simp, hnd, fun v hv => List.mem_range.1 ((hm v).1 hv)⟩
    · simp
theorem bestBetween {f la : Nat} (hf : f < l.length) (hl : la < l.length) (h : f = la ↔ l.length = 1) : ∃ p c, impl_BestBetween.f l f la = some (up (f :: p.map Prod.fst), c, true) ∧ Cmp l.length (Wt l) la (2 ^ f) f 0 p c ∧
    ∀ r, OrdN l.length (f :: r) → r.getLastD f = la → c ≤ pathC (Wt l) f (r.map fun i => (i, false)) := by
  have hn := V.le
  have hcmp : ∀ r, OrdN l.length (f :: r) → r.getLastD f = la → Cmp l.length (Wt l) la (2 ^ f) f 0 (r.map fun i => (i, false)) (pathC (Wt l) f (r.map fun i => (i, false))) := by
    intro r ho e
    have := ord_cmp (W := Wt l) (fin := la) (a := f) (p := r.map fun i => (i, false)) (by rw [plain_fst]; exact ho) (.inr (by rw [plain_fst, e]))
    rw [plain_trues] at this
    exact this
  unfold impl_BestBetween.f
  rw [vb_true V 300 (by omega)]
  simp only [Option.bind_some]
  rw [if_pos ⟨trivial, by omega, by omega, by omega⟩, Int.toNat_natCast]
  have hb := orderF_best (l := l) (fin := la) V 0 (by omega) [f] (fun w hw => by rw [List.mem_singleton.1 hw]; exact hf) (List.pairwise_singleton ..)
  rw [show (((0 : Nat) : Nat) : Int) = 0 from rfl] at hb
  rcases hb with ⟨_, h2⟩ | ⟨w, hw, p, c, h1, h2, h3⟩
  · obtain ⟨r, hr, hr2⟩ := between_ord hf hl h
    exact absurd (hcmp r hr hr2) (h2 f (List.mem_singleton_self _) _ _)
  · obtain rfl := List.mem_singleton.1 hw
    exact ⟨p, c, by rw [h1], h2, fun r ho e => (h3 w (List.mem_singleton_self _) _ _ (hcmp r ho e)).1⟩
end
end Go.Proofs.Ytaapbnhggfmlpaa.B
end
section
namespace Go.Proofs.Ytaapbnhggfmlpaa.P
open Go.RowKit Go.Proofs.YtaapbnhggfmlpaaW.PrintWords Go.Proofs.YtaapbnhggfmlpaaW.PrintLast Go.Proofs.YtaapbnhggfmlpaaW.PrintMore
attribute [local go_sem] max2_int min2_int max_two min_two max_three min_three max_four min_four   -- for this text's walks alone
set_option linter.unusedVariables false
set_option linter.unusedSimpArgs false
end Go.Proofs.Ytaapbnhggfmlpaa.P
end
section
namespace Go.Proofs.Ytaapbnhggfmlpaa.P
open Go.RowKit Go.Proofs.YtaapbnhggfmlpaaW.PrintWords Go.Proofs.YtaapbnhggfmlpaaW.PrintLast Go.Proofs.YtaapbnhggfmlpaaW.PrintMore
attribute [local go_sem] max2_int min2_int max_two min_two max_three min_three max_four min_four   -- for this text's walks alone
set_option linter.unusedVariables false
set_option linter.unusedSimpArgs false
end Go.Proofs.Ytaapbnhggfmlpaa.P
end
section
namespace Go.Proofs.Ytaapbnhggfmlpaa.B
open Go.RowKit Go.Proofs.Ytaapbnhggfmlpaa.P Go.Proofs.YtaapbnhggfmlpaaW.PrintWords Go.Proofs.YtaapbnhggfmlpaaW.PrintLast Go.Proofs.Ytaapbnhggfmlpaa.M Go.Proofs.Ytaapbnhggfmlpaa.A
theorem held0 (zs : List Int) (hl : zs.length ≤ 1048576) (hz : ∀ j, j < zs.length → zs.getD j 0 = 1 + j) : ∀ (d k i : Nat), zs.length - i = d → d < k → i ≤ zs.length → laws_heldInt64S.l0 k zs (1 + (i : Int)) i = some (1 + (zs.length : Int)) := by
  intro d
  induction d with
  | zero =>
    intro k i hd hk hi
    obtain ⟨k, rfl⟩ : ∃ m, k = m + 1 := ⟨k - 1, by omega⟩
    simp only [laws_heldInt64S.l0]
    rw [if_neg (by omega), show i = zs.length by omega]
  | succ d ih =>
    intro k i hd hk hi
    obtain ⟨k, rfl⟩ : ∃ m, k = m + 1 := ⟨k - 1, by omega⟩
    have hlt : i < zs.length := by omega
    simp only [laws_heldInt64S.l0]
    rw [if_pos (by omega), if_pos (by omega), rd_nat, if_pos (hz i hlt), w64s hlt (by omega), w64 (by omega), show (1 : Int) + i + 1 = 1 + ((i + 1 : Nat) : Int) by push_cast; omega]
    exact ih k (i + 1) (by omega) (by omega) (by omega)
theorem held_f (zs : List Int) (n : Nat) (hn : zs.length = n) (hl : n ≤ 1048576) (hz : ∀ j, j < n → zs.getD j 0 = 1 + j) (k : Nat) (hk : n < k) : laws_heldInt64S.f k zs 1 = some (1 + (n : Int)) := by
  subst hn
  exact held0 zs hl hz zs.length k 0 rfl hk (by omega)
theorem spec_in {l : List (List Int)} (V : Valid l) (a : Int) : spec_l00In.f a 0 (wrap64 ((l.length : Int) - 1)) = some (decide (a ≥ 0 ∧ a ≤ (l.length : Int) - 1)) := by
  have h1 := V.pos
  have h2 := V.le
  rw [w64 (by omega), in_spec]
end Go.Proofs.Ytaapbnhggfmlpaa.B
end
section
namespace Go.Proofs.Ytaapbnhggfmlpaa.B
open Go.RowKit Go.Proofs.Ytaapbnhggfmlpaa.P Go.Proofs.YtaapbnhggfmlpaaW.PrintWords Go.Proofs.YtaapbnhggfmlpaaW.PrintLast Go.Proofs.Ytaapbnhggfmlpaa.M Go.Proofs.Ytaapbnhggfmlpaa.A
theorem same_BestBetween (l : List (List Int)) (a1 a2 : Int) : ∃ r1 r2 r3, Evl (fun k => spec_BestBetween.f k l a1 a2) (r1, r2, r3) ∧ impl_BestBetween.f l a1 a2 = some (r1, r2, r3) ∧ r1.length ≤ 9 := by
  by_cases V : Valid l
  · have hn := V.le
    have no : ∀ (x : Bool) (k : Nat), 320 ≤ k → x = true → spec_BestBetween.j0 k a1 a2 x l = some ([], 0, false) := by
      intro x k hk hx
      obtain ⟨k, rfl⟩ : ∃ m, k = m + 1 := ⟨k - 1, by omega⟩
      simp only [spec_BestBetween.j0]
      rw [if_pos hx]
    by_cases c1 : a1 ≥ 0 ∧ a1 ≤ (l.length : Int) - 1
    · by_cases c2 : a2 ≥ 0 ∧ a2 ≤ (l.length : Int) - 1
      · by_cases c3 : (a1 = a2 ↔ (l.length : Int) = 1)
        · obtain ⟨f, rfl⟩ : ∃ s : Nat, a1 = s := ⟨a1.toNat, by omega⟩
          obtain ⟨g, rfl⟩ : ∃ s : Nat, a2 = s := ⟨a2.toNat, by omega⟩
          obtain ⟨p, c, h1, h2, _⟩ := bestBetween V (f := f) (la := g) (by omega) (by omega) (by omega)
          have h4 : orderF l g 0 [f] = (up (f :: p.map Prod.fst), c, true) := by
            unfold impl_BestBetween.f at h1
            rw [vb_true V 300 (by omega)] at h1
            simp only [Option.bind_some] at h1
            rw [if_pos ⟨trivial, by omega, by omega, by omega⟩, Int.toNat_natCast] at h1
            exact Option.some.inj h1
          refine ⟨_, _, _, ?_, h1, ?_⟩
          · obtain ⟨K, hK⟩ := follow (cn := 0) (first := f) V (by omega) [f] (List.pairwise_singleton ..) (fun w => by rw [List.mem_singleton]; omega) h4
            refine ⟨K + 320, fun k hk => ?_⟩
            show spec_BestBetween.f k l _ _ = _
            unfold spec_BestBetween.f
            rw [l10Is l k (by omega)]
            simp only [Option.bind_some]
            rw [if_pos (by simpa using V), spec_in V]
            simp only [Option.bind_some]
            rw [if_pos (by simpa using c1), spec_in V]
            simp only [Option.bind_some]
            rw [if_pos (by simpa using c2)]
            obtain ⟨k, rfl⟩ : ∃ m, k = m + 1 := ⟨k - 1, by omega⟩
            simp only [spec_BestBetween.j0]
            rw [if_neg]
            · rw [show spec_l10Follow.f k l 0 f g = some _ from hK k (by omega)]
              rfl
            · intro h
              rw [bne_iff_ne] at h
              apply h
              rw [Bool.eq_iff_iff, beq_iff_eq, beq_iff_eq]
              exact c3
          · have := (cmp_ord (show f < l.length by omega) h2).len
            rw [up_length, this]
            exact hn
        · refine ⟨[], 0, false, ⟨320, fun k hk => ?_⟩, ?_, by simp⟩
          · show spec_BestBetween.f k l _ _ = _
            unfold spec_BestBetween.f
            rw [l10Is l k (by omega)]
            simp only [Option.bind_some]
            rw [if_pos (by simpa using V), spec_in V]
            simp only [Option.bind_some]
            rw [if_pos (by simpa using c1), spec_in V]
            simp only [Option.bind_some]
            rw [if_pos (by simpa using c2)]
            refine no _ k hk ?_
            rw [bne_iff_ne]
            intro h
            apply c3
            rw [Bool.eq_iff_iff, beq_iff_eq, beq_iff_eq] at h
            exact h
          · unfold impl_BestBetween.f
            rw [vb_true V 300 (by omega)]
            simp only [Option.bind_some]
            rw [if_neg (fun h => c3 (by have := h.2.2.2; omega))]
      · refine ⟨[], 0, false, ⟨320, fun k hk => ?_⟩, ?_, by simp⟩
        · show spec_BestBetween.f k l _ _ = _
          unfold spec_BestBetween.f
          rw [l10Is l k (by omega)]
          simp only [Option.bind_some]
          rw [if_pos (by simpa using V), spec_in V]
          simp only [Option.bind_some]
          rw [if_pos (by simpa using c1), spec_in V]
          simp only [Option.bind_some]
          rw [if_neg (by simpa using c2)]
          exact no _ k hk rfl
        · unfold impl_BestBetween.f
          rw [vb_true V 300 (by omega)]
          simp only [Option.bind_some]
          rw [if_neg (fun h => c2 ⟨h.2.2.1.1, h.2.2.1.2⟩)]
    · refine ⟨[], 0, false, ⟨320, fun k hk => ?_⟩, ?_, by simp⟩
      · show spec_BestBetween.f k l _ _ = _
        unfold spec_BestBetween.f
        rw [l10Is l k (by omega)]
        simp only [Option.bind_some]
        rw [if_pos (by simpa using V), spec_in V]
        simp only [Option.bind_some]
        rw [if_neg (by simpa using c1)]
        exact no _ k hk rfl
      · unfold impl_BestBetween.f
        rw [vb_true V 300 (by omega)]
        simp only [Option.bind_some]
        rw [if_neg (fun h => c1 ⟨h.2.1.1, h.2.1.2⟩)]
  · refine ⟨[], 0, false, ⟨320, fun k hk => ?_⟩, ?_, by simp⟩
    · show spec_BestBetween.f k l _ _ = _
      unfold spec_BestBetween.f
      rw [l10Is l k (by omega)]
      simp only [Option.bind_some]
      rw [if_neg (by simpa using V)]
      obtain ⟨k, rfl⟩ : ∃ m, k = m + 1 := ⟨k - 1, by omega⟩
      simp only [spec_BestBetween.j0]
      rw [if_pos trivial]
    · unfold impl_BestBetween.f
      rw [validBundle l 300 (by omega)]
      simp only [Option.bind_some]
      rw [if_neg (fun h => V (by simpa using h.1))]
theorem exact_BestBetween (l : List (List Int)) (a1 a2 : Int) (hl : l.length ≤ 9223372036854775807) (hm : ∀ r ∈ l, r.length ≤ 9223372036854775807) :
    ∃ k z, laws_szBundle.f k l 1048576 = some z ∧ (¬ z < 0 → l.length ≤ 1048576 ∧ (∀ j, j < l.length → (l.getD j []).length ≤ 1048576) ∧ laws_toBundle.f k l = some l ∧ laws_eqBundle.f k l l = some true ∧
      ∃ r1 r2 r3 zs, spec_BestBetween.f k l a1 a2 = some (r1, r2, r3) ∧ impl_BestBetween.f l a1 a2 = some (r1, r2, r3) ∧ laws_eqInt64S.f k r1 r1 = some true ∧ laws_markInt64S.f k r1 1 = some (1 + (r1.length : Int), zs) ∧ zs.length = r1.length ∧ laws_heldInt64S.f k zs 1 = some (1 + (r1.length : Int))) := by
  obtain ⟨r1, r2, r3, ⟨K, hK⟩, hi, hr⟩ := same_BestBetween l a1 a2
  obtain ⟨z, hz, hz'⟩ := szBundle l hl hm (K + 2097157) (by omega)
  refine ⟨K + 2097157, z, hz, fun c => ?_⟩
  obtain ⟨h1, h2⟩ := hz' (by omega)
  obtain ⟨zs, hs1, hs2, hs3⟩ := mark_f r1 (by omega) 1 ⟨by decide, by decide⟩ (K + 2097157) (by omega)
  exact ⟨h1, fun j hj => h2 _ (getD_mem hj), toBundle l h1 h2 _ (by omega), eqBundle l h1 h2 _ (by omega), r1, r2, r3, zs, hK _ (by omega), hi, eqI r1 (by omega) _ (by omega), hs1, hs2, held_f zs r1.length hs2 (by omega) hs3 _ (by omega)⟩
end Go.Proofs.Ytaapbnhggfmlpaa.B
end
section
namespace Go.Proofs.Ytaapbnhggfmlpaa.R
open Go.ChangeShapes Go.WideShapes Go.RowKit Go.Deep Go.Joins Go.Proofs.YtaapbnhggfmlpaaW.PrintWords
section
variable {H : Type} {enc : TypeId × Value → H} {P : Program} {w : World} {held : Bool}
theorem C_nil_ {α : Type} (d : Kd α) (w : World) : Kd.C d w none 0 [] := ⟨rfl, by omega, fun h => absurd h (by omega)⟩
theorem C_int {k : IntKind} {a : Addr} {n : Nat} {zs : List Int} (hn : zs.length = n) (hm : n ≤ 9223372036854775807) (h : ∀ j, j < n → w.cell? (a.add j) = some (.int k (zs.getD j 0))) : Kd.C (Kd.int k) w (some a) n zs :=
  Kd.C_of_reads (d := (0 : Int)) (h1 := fun _ => rfl) ⟨hn, hm, fun _ => ⟨a, rfl, fun j hj => h j hj⟩⟩
theorem rd_int_rows {t e q : TypeId} {k : IntKind} {fuel : Nat} {cs : List Value} {x : DataW H × List MemPlace} (ht : P.underlying t = some (.slice e)) (he : P.underlying e = some (.slice q)) (hq : P.underlying q = some (.int k))
    (ce : P.cellsOf e = 1) (cq : P.cellsOf q = 1) (h : DataW.trod enc P w 0 (fun _ => true) held fuel t cs = some x) :
    ∃ (a : Option Addr) (cap : Nat) (l : List (List Int)), cs = [.slice a l.length cap] ∧ l.length ≤ cap ∧ Kd.C (Kd.slice q (Kd.int k)) w a l.length l ∧ (∀ r ∈ l, ∀ n ∈ r, (Lit.int k n).wf = true) ∧ ∀ r ∈ l, r.length ≤ 9223372036854775807 := by
  rcases open_int_rows ht he hq ce cq h with ⟨hcs, _⟩ | ⟨a, len, cap, A, L, C, Z, hcs, _, hl, hm, _, hr⟩
  · exact ⟨none, 0, [], hcs, Nat.le_refl _, C_nil_ _ _, by simp, by simp⟩
  · have hlen : ((List.range len).map fun r => (Z r).take (L r)).length = len := by simp
    refine ⟨some a, cap, (List.range len).map fun r => (Z r).take (L r), by rw [hlen]; exact hcs, by rw [hlen]; exact hl, ?_, ?_, ?_⟩
    · refine ⟨rfl, by rw [hlen]; unfold maxLen at hm; omega, fun _ => ⟨a, rfl, fun j p hj => ?_⟩⟩
      have hjl : j < len := by
        have := (List.getElem?_eq_some_iff.1 hj).1
        rwa [hlen] at this
      have hp : p = (Z j).take (L j) := by
        rw [List.getElem?_map, List.getElem?_range hjl] at hj
        simpa using hj.symm
      obtain ⟨h1, h2, h3, h4, h5, h6, h7⟩ := hr j (by omega)
      have hpl : p.length = L j := by rw [hp, List.length_take]; omega
      refine ⟨[.slice (A j) (L j) (C j)], rfl, ⟨A j, C j, by rw [hpl], by rw [hpl]; exact h2, ?_⟩, ?_⟩
      · cases hA : A j with
        | none =>
          have : L j = 0 := by have := h6 hA; omega
          have hp0 : p = [] := List.eq_nil_of_length_eq_zero (by omega)
          subst hp0
          exact C_nil_ _ _
        | some a' =>
          obtain ⟨_, h8⟩ := h7 a' hA
          refine C_int rfl (by rw [hpl]; unfold maxLen at h3; omega) (fun i hi => ?_)
          rw [hpl] at hi
          rw [h8 i (by omega), hp]
          simp [hi]
      · intro i u hu
        match i, hu with
        | 0, hu => simp at hu; subst hu; rw [show j * (Kd.slice q (Kd.int k)).sz + 0 = j from Nat.mul_one j]; exact h1
    · intro r hr0 n hn
      obtain ⟨j, hj, rfl⟩ := List.mem_map.1 hr0
      have hjl := List.mem_range.1 hj
      obtain ⟨h1, h2, h3, h4, h5, h6, h7⟩ := hr j (by omega)
      exact h5 n (List.mem_of_mem_take hn)
    · intro r hr0
      obtain ⟨j, hj, rfl⟩ := List.mem_map.1 hr0
      have hjl := List.mem_range.1 hj
      obtain ⟨h1, h2, h3, h4, h5, h6, h7⟩ := hr j (by omega)
      rw [List.length_take]; unfold maxLen at h3; omega
theorem open_agg1 {base : Nat} {spare : Nat → Bool} {r : Reach} {b0 : Nat} {t : TypeId} {f0 : Field} {v : Value} {d : DataW H} {p : List MemPlace} (hs : P.underlying t = some (.struct #[f0])) (hone : oneCellFields P #[f0] = true) (hC : P.cellsOf t = 1)
    (hv : Value.okWide P w r b0 t v) (h : DataW.Trod enc P w base spare held t v d p) :
    ∃ (v0 : Value) (y0 : DataW H × List MemPlace) (n : Nat), v = .agg #[v0] ∧ DataW.trod enc P w base spare held n f0.type [v0] = some y0 := by
  obtain ⟨cs, rfl, hsz⟩ := okWide_struct hs hv
  obtain ⟨c0, rfl⟩ : ∃ c0, cs = #[c0] := by
    have hsz' := hsz.trans hC
    obtain ⟨l⟩ := cs
    match l, hsz' with
    | [c0], _ => exact ⟨c0, rfl⟩
  obtain ⟨fuel, hf⟩ := h
  obtain ⟨y0, n, hx, _, h0⟩ := trod_struct1 hs hf
  obtain ⟨o0, k0⟩ := hone_of hone 0 f0 rfl
  exact ⟨c0, y0, n, rfl, by simpa [Value.cells, o0, k0] using h0⟩
end
end Go.Proofs.Ytaapbnhggfmlpaa.R
end
section
namespace Go.Proofs.Ytaapbnhggfmlpaa.fnExactBestBetween
open Go.ChangeShapes Go.WideShapes Go.ChangeAt Go.RowKit
set_option linter.unusedVariables false
theorem own : ownKnob Try.prog.godebug = none := by kernel_rfl
theorem laidOut : laidOutB Try.prog = true := by kernel_rfl
set_option maxRecDepth 100000 in
theorem lifted (os : Os) (started : os.Started) (H : Type) (enc : TypeId × Value → H) :
    ReturnsInHanded {} Try.checked os 9 .any (Rows.fnExactBestBetweenSpec.pre6 enc Try.prog Try.f9 Rows.fnExactBestBetweenRow.domain false) (Rows.fnExactBestBetweenSpec.post enc Try.prog Try.f9 false true false false) := by
  refine returnsInHanded_of_change_sized (C := Try.checked) own started (by kernel_rfl) Try.func9
    (ChangeSpec.witness6 (enc := enc) (C := Try.checked) false ⟨#[], #[.agg #[.slice none 0 0], .int .i64 0, .int .i64 0], []⟩ 8 (by kernel_rfl) (by kernel_rfl) (by kernel_rfl) (by kernel_rfl)) ?_
  intro W base args ds gs before hval0 hW hcnd hsz0 _
  have hval : ∀ (j : Nat) t v, Try.f9.params[j]? = some t → args[j]? = some v → Value.okWide Try.prog W .any base t v := hval0
  have hW' := hW
  obtain ⟨p, q, hA0, hV, rfl, hfz, hnd⟩ := hW
  have hA : DataW.TrodAll enc Try.prog W 0 (fun _ => true) true Try.f9.params.toList args.toList ds p := hA0
  rw [Try.params9] at hA hval
  obtain ⟨v0, vs0, d0, ds0, p0, q0, hargs, rfl, rfl, h0, r0⟩ := trodAll_cons hA
  obtain ⟨v1, vs1, d1, ds1, p1, q1, rfl, rfl, rfl, h1, r1⟩ := trodAll_cons r0
  obtain ⟨v2, vs2, d2, ds2, p2, q2, rfl, rfl, rfl, h2, r2⟩ := trodAll_cons r1
  obtain ⟨rfl, rfl, rfl⟩ := trodAll_nil r2
  obtain rfl : args = #[v0, v1, v2] := by cases args; simp_all
  obtain ⟨rfl, rfl⟩ := trodVars_none hV
  have k0 := h0
  have lt0 : ∀ x ∈ p0, x.block < W.heap.size := by obtain ⟨m, hm⟩ := k0; exact DataW.trod_lt m _ _ _ hm
  obtain ⟨u0, y0, m0, rfl, hy0⟩ := R.open_agg1 Try.underlying41 (by kernel_rfl) (by kernel_rfl) (hval 0 41 v0 rfl rfl) h0
  obtain ⟨A0, cap0, l0, hcs0, hc0, hr0, hw0, hm0⟩ := R.rd_int_rows Try.underlying39 Try.underlying28 Try.underlying2 (by kernel_rfl) (by kernel_rfl) hy0
  obtain rfl : u0 = .slice A0 l0.length cap0 := by simpa using hcs0
  have k1 := h1
  have lt1 : ∀ x ∈ p1, x.block < W.heap.size := by obtain ⟨m, hm⟩ := k1; exact DataW.trod_lt m _ _ _ hm
  obtain ⟨a1, rfl⟩ := okWide_int Try.underlying2 (hval 1 2 v1 rfl rfl)
  have k2 := h2
  have lt2 : ∀ x ∈ p2, x.block < W.heap.size := by obtain ⟨m, hm⟩ := k2; exact DataW.trod_lt m _ _ _ hm
  obtain ⟨a2, rfl⟩ := okWide_int Try.underlying2 (hval 2 2 v2 rfl rfl)
  clear hA0 hval0 hsz0
  have main : Calls Try.prog 9 #[.agg #[.slice A0 l0.length cap0], .int .i64 a1, .int .i64 a2] W fun e w' => e = .returned (.bool true) ∧ Below W.heap.size W w' := by
    obtain ⟨k, z, hz, hP⟩ := B.exact_BestBetween l0 a1 a2 (by have := YtaapbnhggfmlpaaW.PrintWords.Kd.C_max hr0; exact this) hm0
    by_cases c : z < 0
    · exact P.exactBestBetween_no k A0 cap0 l0 a1 a2 z W hr0 hc0 hz c
    · obtain ⟨g1, g2, g3, g4, r1, r2, r3, zs, g5, g6, g7, g8, g9, g10⟩ := hP c
      exact P.exactBestBetween_yes k A0 cap0 l0 a1 a2 z r1 r2 r3 zs W hr0 hc0 g1 g2 hz c g3 g5 g6 g4 g7 g8 g9 g10
  refine main.mono fun e W' ⟨he, bel⟩ => ?_
  subst he
  exact ⟨_, rfl, _, _, _, [], _, [], hW', trodAll_mk1 (shut_bool Try.underlying4 _), (trodAll_cons_mk (Below.trod laidOut (by kernel_rfl) (of_decide_eq_true (by kernel_rfl)) k0 bel lt0) (trodAll_cons_mk (Below.trod laidOut (by kernel_rfl) (of_decide_eq_true (by kernel_rfl)) k1 bel lt1) (trodAll_cons_mk (Below.trod laidOut (by kernel_rfl) (of_decide_eq_true (by kernel_rfl)) k2 bel lt2) trodAll_mk0))), rfl, bel.frame _, fun h => by cases h⟩
theorem over : Rows.fnExactBestBetweenRow.holds Try.pinned (OpenSpec.ofChange Rows.fnExactBestBetweenSpec) :=
  OpenClaim.holds_of_wide 9 Try.f9 rfl rfl rfl rfl rfl rfl rfl ⟨rfl, rfl, rfl, rfl, rfl⟩ rfl rfl rfl rfl rfl (by kernel_rfl) Try.func9 (by kernel_rfl)
    (of_decide_eq_true (by kernel_rfl)) (by unfold Func.isWrapper; first | (rw [if_pos (by decide +kernel)]; kernel_rfl) | (rw [if_neg (by decide +kernel)]; exact ⟨rfl, rfl⟩))
    (fun os started H enc _ => lifted os started H enc)
theorem proved : Rows.FnExactBestBetweenSaid := over
#print axioms proved
end Go.Proofs.Ytaapbnhggfmlpaa.fnExactBestBetween
namespace Go.Proofs.Ytaapbnhggfmlpaa
/-- The row, under a short name, for the claim. -/
theorem fnExactBestBetween_holds : Rows.FnExactBestBetweenSaid := fnExactBestBetween.proved
end Go.Proofs.Ytaapbnhggfmlpaa
end
