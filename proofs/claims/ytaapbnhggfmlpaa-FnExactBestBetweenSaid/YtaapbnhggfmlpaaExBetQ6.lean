/- Lemmas and contracts of functions, part 6 of 9, for this law: The law FnExactBestBetween holds for every input. -/
import Derived.Test.YtaapbnhggfmlpaaExBetQ1
import Derived.Test.YtaapbnhggfmlpaaExBetQ4
import Derived.Test.YtaapbnhggfmlpaaExBetQ5
section
namespace Go.Proofs.Ytaapbnhggfmlpaa.P
open Go.RowKit Go.Proofs.YtaapbnhggfmlpaaW.PrintWords Go.Proofs.YtaapbnhggfmlpaaW.PrintLast Go.Proofs.YtaapbnhggfmlpaaW.PrintMore
attribute [local go_sem] max2_int min2_int max_two min_two max_three min_three max_four min_four   -- for this text's walks alone
set_option linter.unusedVariables false
set_option linter.unusedSimpArgs false
set_option maxHeartbeats 4000000 in
set_option maxRecDepth 100000 in
theorem spec_l10Follow.calls (k : Nat) (g0 : Nat) (A0_0 : Option Addr) (c0_0 : Nat) (l0_0 : List (List Int)) (a1 : Int) (a2 : Int) (a3 : Int) (r1 : List Int) (r2 : Int) (w : World) (hb0 : w.heap[g0]? = some (.cells #[.slice A0_0 l0_0.length c0_0] 44 (0, 0))) (hr0_0 : Kd.C (Kd.slice 2 (Kd.int .i64)) w A0_0 l0_0.length l0_0) (hc0_0 : l0_0.length ≤ c0_0) (h : spec_l10Follow.f k l0_0 a1 a2 a3 = some (r1, r2)) :
  Calls Try.prog 102 #[.pointer (some ⟨g0, 0, none⟩), .int .i64 a1, .int .i64 a2, .int .i64 a3] w fun e w' => ∃ v0_ : Value, e = .returned (.tuple #[v0_, .int .i64 r2]) ∧ Kd.R (Kd.int .i64) 2 w' w.heap.size (fun _ => True) v0_ r1 ∧ Below w.heap.size w w' := by
 have HR0_0 := Aside0.mk hr0_0
 have HC0_0 := Aside0.mk hc0_0
 clear hr0_0 hc0_0
 have BK0 := Aside0.mk hb0
 clear hb0
 have HB := Aside0.mk (Below.refl w.heap.size w)
 have H : ((spec_l10Left.f k l0_0 a1 a3).bind fun t868 => (spec_l10Follow.l0 k a1 a2 (l0_0.length : Int) t868 (-1) 0 l0_0)) = some (r1, r2) := h
 clear h
 replace H := Option.bind_eq_some_iff.mp H
 obtain ⟨t868, A50, H⟩ := H
 replace H : (spec_l10Follow.l0 k a1 a2 (l0_0.length : Int) t868 (-1) 0 l0_0) = some (r1, r2) := H
 have A5 := Aside0.mk A50
 clear A50
 have H' := Aside0.mk H
 clear H
 have hcz6_0 : w.cell? ⟨g0, 0, none⟩ = some (.slice A0_0 l0_0.length c0_0) := (blk_cell BK0.out 0).trans rfl
 have hfz6_0 := blk_frozen BK0.out 0
 go_enter Try.func102, Try.ntmps102
 go_wp2_with (first | (go_at_call 132; (with_reducible refine (spec_l10Left.calls k g0 A0_0 c0_0 l0_0 a1 a3 t868 _ ?side1 ?side2 ?side3 A5.out).mono ?_); (case side1 => (with_reducible repeat first | refine b_N ?_ _ | refine b_D ?_ | refine b_A ?_ _); exact BK0.out); (case side2 => repeat (first | exact HR0_0.out | (with_reducible refine Kd.C_alloc ?_ _) | (with_reducible refine Kd.C_drewN ?_ _) | (with_reducible refine Kd.C_drew ?_))); (case side3 => exact HC0_0.out); rintro e w7 ⟨v869, rfl, ho0, hb⟩; have n0_ := Aside0.mk (Kd.R_lower ho0 (below_size (by repeat (first | (with_reducible first | exact HB.out | apply below_alloc | apply pw_below_drewN | apply below_drew1) | exact HB.out)))); have n1_ := Aside0.mk (blk_below (g := g0) (o := .cells #[.slice A0_0 l0_0.length c0_0] 44 (0, 0)) (by (with_reducible repeat first | refine b_N ?_ _ | refine b_D ?_ | refine b_A ?_ _); exact BK0.out) hb); have n2_ := Aside0.mk (below_step (by repeat (first | (with_reducible first | exact HB.out | apply below_alloc | apply pw_below_drewN | apply below_drew1) | exact HB.out)) hb); clear BK0; clear HB; have HO870 := n0_; have BK0 := n1_; have HB := n2_; clear n0_ n1_ n2_; (try clear hb); (try clear hb2); (try clear hk); (try clear hi); (try clear ho0)))
 repeat (go_quiet (first | (go_at_call 132; (with_reducible refine (spec_l10Left.calls k g0 A0_0 c0_0 l0_0 a1 a3 t868 _ ?side1 ?side2 ?side3 A5.out).mono ?_); (case side1 => (with_reducible repeat first | refine b_N ?_ _ | refine b_D ?_ | refine b_A ?_ _); exact BK0.out); (case side2 => repeat (first | exact HR0_0.out | (with_reducible refine Kd.C_alloc ?_ _) | (with_reducible refine Kd.C_drewN ?_ _) | (with_reducible refine Kd.C_drew ?_))); (case side3 => exact HC0_0.out); rintro e w7 ⟨v869, rfl, ho0, hb⟩; have n0_ := Aside0.mk (Kd.R_lower ho0 (below_size (by repeat (first | (with_reducible first | exact HB.out | apply below_alloc | apply pw_below_drewN | apply below_drew1) | exact HB.out)))); have n1_ := Aside0.mk (blk_below (g := g0) (o := .cells #[.slice A0_0 l0_0.length c0_0] 44 (0, 0)) (by (with_reducible repeat first | refine b_N ?_ _ | refine b_D ?_ | refine b_A ?_ _); exact BK0.out) hb); have n2_ := Aside0.mk (below_step (by repeat (first | (with_reducible first | exact HB.out | apply below_alloc | apply pw_below_drewN | apply below_drew1) | exact HB.out)) hb); clear BK0; clear HB; have HO870 := n0_; have BK0 := n1_; have HB := n2_; clear n0_ n1_ n2_; (try clear hb); (try clear hb2); (try clear hk); (try clear hi); (try clear ho0))); try go_wp2_with (first | (go_at_call 132; (with_reducible refine (spec_l10Left.calls k g0 A0_0 c0_0 l0_0 a1 a3 t868 _ ?side1 ?side2 ?side3 A5.out).mono ?_); (case side1 => (with_reducible repeat first | refine b_N ?_ _ | refine b_D ?_ | refine b_A ?_ _); exact BK0.out); (case side2 => repeat (first | exact HR0_0.out | (with_reducible refine Kd.C_alloc ?_ _) | (with_reducible refine Kd.C_drewN ?_ _) | (with_reducible refine Kd.C_drew ?_))); (case side3 => exact HC0_0.out); rintro e w7 ⟨v869, rfl, ho0, hb⟩; have n0_ := Aside0.mk (Kd.R_lower ho0 (below_size (by repeat (first | (with_reducible first | exact HB.out | apply below_alloc | apply pw_below_drewN | apply below_drew1) | exact HB.out)))); have n1_ := Aside0.mk (blk_below (g := g0) (o := .cells #[.slice A0_0 l0_0.length c0_0] 44 (0, 0)) (by (with_reducible repeat first | refine b_N ?_ _ | refine b_D ?_ | refine b_A ?_ _); exact BK0.out) hb); have n2_ := Aside0.mk (below_step (by repeat (first | (with_reducible first | exact HB.out | apply below_alloc | apply pw_below_drewN | apply below_drew1) | exact HB.out)) hb); clear BK0; clear HB; have HO870 := n0_; have BK0 := n1_; have HB := n2_; clear n0_ n1_ n2_; (try clear hb); (try clear hb2); (try clear hk); (try clear hi); (try clear ho0))))
 go_loopg [12, 13] k (fun kq v12 v13 w' => ∃ (x12_1 : Int) (x13_1 : Int), v12 = .int .i64 x12_1 ∧ v13 = .int .i64 x13_1 ∧ Aside0 (spec_l10Follow.l0 kq a1 a2 (l0_0.length : Int) t868 x12_1 x13_1 l0_0 = some (r1, r2)) ∧ Aside0 (kq ≤ k) ∧ Aside0 (Kd.R (Kd.int .i64) 2 w' w.heap.size (fun _ => True) v869 t868) ∧ Aside0 (w'.heap[g0]? = some (.cells #[(.slice A0_0 l0_0.length c0_0)] 44 (0, 0))) ∧ Aside0 (Below w.heap.size w w'))
 case atStart => exact ⟨((-1)), (0), (by first | rfl | (simp; done) | (simp [*]; done)), (by first | rfl | (simp; done) | (simp [*]; done)), H', ⟨Nat.le_refl _⟩, ⟨by (with_reducible repeat (first | apply Kd.R_alloc | apply Kd.R_drewN | apply Kd.R_drew)); exact HO870.out⟩, ⟨by (with_reducible repeat first | refine b_N ?_ _ | refine b_D ?_ | refine b_A ?_ _); exact BK0.out⟩, ⟨by repeat (first | (with_reducible first | exact HB.out | apply below_alloc | apply pw_below_drewN | apply below_drew1) | exact HB.out)⟩⟩
 case round =>
  as_aux_lemma =>
  clear H'
  try clear c1
  try clear p2
  try clear hcz6_0
  try clear hfz6_0
  obtain ⟨x12_1, x13_1, rfl, rfl, HA, HK1, HO_11, BK0, HB⟩ := hrel
  cases gk with
  | zero => exact absurd HA.out (by simp [spec_l10Follow.l0])
  | succ k1 =>
   have H := HA.out
   clear HA
   simp only [spec_l10Follow.l0] at H
   by_cases c8 : x13_1 < (l0_0.length : Int)
   ·rw [if_pos c8] at H
    have c8b0 : decide (x13_1 < (l0_0.length : Int)) = true := decide_eq_true c8
    clear c8
    obtain ⟨ji9, hji9⟩ : ∃ j_ : Int, (IntKind.u64.wrap (x13_1)) = j_ := ⟨_, rfl⟩
    replace H : (if 0 ≤ (ji9) then (if 0 ≤ (wrap64 ((wrap64 ((wrap64 ((wrap64 ((shl .i64 1 (ji9)) * 9)) + x13_1)) * 9)) + a1)) then (if (wrap64 ((wrap64 ((wrap64 ((wrap64 ((shl .i64 1 (ji9)) * 9)) + x13_1)) * 9)) + a1)) < (t868.length : Int) then (if (rd t868 (wrap64 ((wrap64 ((wrap64 ((wrap64 ((shl .i64 1 (ji9)) * 9)) + x13_1)) * 9)) + a1))) ≥ 0 then (if a2 < 0 then (if x12_1 < 0 then (spec_l10Follow.j1 k1 a1 a2 (l0_0.length : Int) t868 x12_1 x13_1 (rd t868 (wrap64 ((wrap64 ((wrap64 ((wrap64 ((shl .i64 1 (ji9)) * 9)) + x13_1)) * 9)) + a1))) true l0_0) else (spec_l10Follow.j1 k1 a1 a2 (l0_0.length : Int) t868 x12_1 x13_1 (rd t868 (wrap64 ((wrap64 ((wrap64 ((wrap64 ((shl .i64 1 (ji9)) * 9)) + x13_1)) * 9)) + a1))) (decide ((rd t868 (wrap64 ((wrap64 ((wrap64 ((wrap64 ((shl .i64 1 (ji9)) * 9)) + x13_1)) * 9)) + a1))) < x12_1)) l0_0)) else (if x13_1 = a2 then (if x12_1 < 0 then (spec_l10Follow.j1 k1 a1 a2 (l0_0.length : Int) t868 x12_1 x13_1 (rd t868 (wrap64 ((wrap64 ((wrap64 ((wrap64 ((shl .i64 1 (ji9)) * 9)) + x13_1)) * 9)) + a1))) true l0_0) else (spec_l10Follow.j1 k1 a1 a2 (l0_0.length : Int) t868 x12_1 x13_1 (rd t868 (wrap64 ((wrap64 ((wrap64 ((wrap64 ((shl .i64 1 (ji9)) * 9)) + x13_1)) * 9)) + a1))) (decide ((rd t868 (wrap64 ((wrap64 ((wrap64 ((wrap64 ((shl .i64 1 (ji9)) * 9)) + x13_1)) * 9)) + a1))) < x12_1)) l0_0)) else (spec_l10Follow.j1 k1 a1 a2 (l0_0.length : Int) t868 x12_1 x13_1 (rd t868 (wrap64 ((wrap64 ((wrap64 ((wrap64 ((shl .i64 1 (ji9)) * 9)) + x13_1)) * 9)) + a1))) false l0_0))) else (spec_l10Follow.j1 k1 a1 a2 (l0_0.length : Int) t868 x12_1 x13_1 (rd t868 (wrap64 ((wrap64 ((wrap64 ((wrap64 ((shl .i64 1 (ji9)) * 9)) + x13_1)) * 9)) + a1))) false l0_0)) else (none)) else (none)) else (none)) = some (r1, r2) := by first | (rw [hji9] at H; exact H) | (simp only [hji9] at H ⊢; exact H)
    by_cases c10 : 0 ≤ (ji9)
    ·rw [if_pos c10] at H
     have c10b0 := eq_true c10
     have c10b1 : decide (0 ≤ (ji9)) = true := decide_eq_true c10
     clear c10
     obtain ⟨ji11, hji11⟩ : ∃ j_ : Int, (shl .i64 1 (ji9)) = j_ := ⟨_, rfl⟩
     replace H : (if 0 ≤ (wrap64 ((wrap64 ((wrap64 ((wrap64 ((ji11) * 9)) + x13_1)) * 9)) + a1)) then (if (wrap64 ((wrap64 ((wrap64 ((wrap64 ((ji11) * 9)) + x13_1)) * 9)) + a1)) < (t868.length : Int) then (if (rd t868 (wrap64 ((wrap64 ((wrap64 ((wrap64 ((ji11) * 9)) + x13_1)) * 9)) + a1))) ≥ 0 then (if a2 < 0 then (if x12_1 < 0 then (spec_l10Follow.j1 k1 a1 a2 (l0_0.length : Int) t868 x12_1 x13_1 (rd t868 (wrap64 ((wrap64 ((wrap64 ((wrap64 ((ji11) * 9)) + x13_1)) * 9)) + a1))) true l0_0) else (spec_l10Follow.j1 k1 a1 a2 (l0_0.length : Int) t868 x12_1 x13_1 (rd t868 (wrap64 ((wrap64 ((wrap64 ((wrap64 ((ji11) * 9)) + x13_1)) * 9)) + a1))) (decide ((rd t868 (wrap64 ((wrap64 ((wrap64 ((wrap64 ((ji11) * 9)) + x13_1)) * 9)) + a1))) < x12_1)) l0_0)) else (if x13_1 = a2 then (if x12_1 < 0 then (spec_l10Follow.j1 k1 a1 a2 (l0_0.length : Int) t868 x12_1 x13_1 (rd t868 (wrap64 ((wrap64 ((wrap64 ((wrap64 ((ji11) * 9)) + x13_1)) * 9)) + a1))) true l0_0) else (spec_l10Follow.j1 k1 a1 a2 (l0_0.length : Int) t868 x12_1 x13_1 (rd t868 (wrap64 ((wrap64 ((wrap64 ((wrap64 ((ji11) * 9)) + x13_1)) * 9)) + a1))) (decide ((rd t868 (wrap64 ((wrap64 ((wrap64 ((wrap64 ((ji11) * 9)) + x13_1)) * 9)) + a1))) < x12_1)) l0_0)) else (spec_l10Follow.j1 k1 a1 a2 (l0_0.length : Int) t868 x12_1 x13_1 (rd t868 (wrap64 ((wrap64 ((wrap64 ((wrap64 ((ji11) * 9)) + x13_1)) * 9)) + a1))) false l0_0))) else (spec_l10Follow.j1 k1 a1 a2 (l0_0.length : Int) t868 x12_1 x13_1 (rd t868 (wrap64 ((wrap64 ((wrap64 ((wrap64 ((ji11) * 9)) + x13_1)) * 9)) + a1))) false l0_0)) else (none)) else (none)) = some (r1, r2) := by first | (rw [hji11] at H; exact H) | (simp only [hji11] at H ⊢; exact H)
     have hji11_ : (IntKind.i64.wrap (1 * 2 ^ min (ji9).toNat 64)) = ji11 := hji11
     have hji11z : (ji9) ≤ 64 → (IntKind.i64.wrap (1 * 2 ^ (ji9).toNat)) = ji11 := shl_small hji11
     have hji11u : (IntKind.i64.wrap (2 ^ min (ji9).toNat 64)) = ji11 := by have h_ := hji11_; rw [Int.one_mul] at h_; exact h_
     have hji11v : (ji9) ≤ 64 → (IntKind.i64.wrap (2 ^ (ji9).toNat)) = ji11 := fun hle_ => by have h_ := hji11z hle_; rw [Int.one_mul] at h_; exact h_
     have hji11y : (wrap64 (1 * 2 ^ min (ji9).toNat 64)) = ji11 := (i64_w _).symm.trans hji11_
     have hji11x : (ji9) ≤ 64 → (wrap64 (1 * 2 ^ (ji9).toNat)) = ji11 := fun h_ => (i64_w _).symm.trans (hji11z h_)
     obtain ⟨ji12, hji12⟩ : ∃ j_ : Int, (wrap64 ((wrap64 ((wrap64 ((wrap64 ((ji11) * 9)) + x13_1)) * 9)) + a1)) = j_ := ⟨_, rfl⟩
     replace H : (if 0 ≤ (ji12) then (if (ji12) < (t868.length : Int) then (if (rd t868 (ji12)) ≥ 0 then (if a2 < 0 then (if x12_1 < 0 then (spec_l10Follow.j1 k1 a1 a2 (l0_0.length : Int) t868 x12_1 x13_1 (rd t868 (ji12)) true l0_0) else (spec_l10Follow.j1 k1 a1 a2 (l0_0.length : Int) t868 x12_1 x13_1 (rd t868 (ji12)) (decide ((rd t868 (ji12)) < x12_1)) l0_0)) else (if x13_1 = a2 then (if x12_1 < 0 then (spec_l10Follow.j1 k1 a1 a2 (l0_0.length : Int) t868 x12_1 x13_1 (rd t868 (ji12)) true l0_0) else (spec_l10Follow.j1 k1 a1 a2 (l0_0.length : Int) t868 x12_1 x13_1 (rd t868 (ji12)) (decide ((rd t868 (ji12)) < x12_1)) l0_0)) else (spec_l10Follow.j1 k1 a1 a2 (l0_0.length : Int) t868 x12_1 x13_1 (rd t868 (ji12)) false l0_0))) else (spec_l10Follow.j1 k1 a1 a2 (l0_0.length : Int) t868 x12_1 x13_1 (rd t868 (ji12)) false l0_0)) else (none)) else (none)) = some (r1, r2) := by first | (rw [hji12] at H; exact H) | (simp only [hji12] at H ⊢; exact H)
     have hji12w : (IntKind.i64.wrap ((wrap64 ((wrap64 ((wrap64 ((ji11) * 9)) + x13_1)) * 9)) + a1)) = ji12 := (i64_w _).trans hji12
     by_cases c13 : 0 ≤ (ji12)
     ·rw [if_pos c13] at H
      have c13b0 : decide (0 ≤ (ji12)) = true := decide_eq_true c13
      clear c13
      by_cases c14 : (ji12) < (t868.length : Int)
      ·rw [if_pos c14] at H
       have c14b0 : decide ((ji12) < (t868.length : Int)) = true := decide_eq_true c14
       clear c14
       have HC15 := Aside0.mk H
       clear H
       obtain ⟨Ao16, co16, eo16⟩ := Kd.R_slice HO_11.out
       subst eo16
       have p871 : 0 ≤ ((ji12) : Int) := of_decide_eq_true (by first | (with_reducible assumption) | assumption)
       have q871 : (ji12) < (t868.length : Int) := of_decide_eq_true (by first | (with_reducible assumption) | assumption)
       obtain ⟨ad871, e871, hx871_0⟩ := Kd.at_int (Kd.R_reads' HO_11.out).2.2 (ji12) p871 q871
       cases e871
       replace p871 := eq_true p871
       replace q871 := eq_true q871
       go_upto_region 8 with (fail)
       repeat (go_quiet (fail); go_upto_region 8 with (fail))
       go_cut [72] (fun v72 wc => ∃ (kq : Nat) (x72_14 : Bool), v72 = .bool x72_14 ∧ Aside0 (spec_l10Follow.j1 kq a1 a2 (l0_0.length : Int) t868 x12_1 x13_1 (rd t868 (ji12)) x72_14 l0_0 = some (r1, r2)) ∧ Aside0 (kq ≤ k1) ∧ Aside0 (Kd.R (Kd.int .i64) 2 wc w.heap.size (fun _ => True) (.slice (some ad871) t868.length co16) t868) ∧ Aside0 (wc.heap[g0]? = some (.cells #[(.slice A0_0 l0_0.length c0_0)] 44 (0, 0))) ∧ Aside0 (Below w.heap.size w wc))
       case first =>
        have H := HC15.out
        clear HC15
        by_cases c17 : (rd t868 (ji12)) ≥ 0
        ·rw [if_pos c17] at H
         have c17b0 : decide (0 ≤ (rd t868 (ji12))) = true := decide_eq_true c17
         clear c17
         (first | rw [c17b0] | (simp only [i64_w, i32_w]; rw [c17b0]) | skip)
         by_cases c18 : a2 < 0
         ·rw [if_pos c18] at H
          have c18b0 : decide (a2 < 0) = true := decide_eq_true c18
          clear c18
          by_cases c19 : x12_1 < 0
          ·rw [if_pos c19] at H
           have c19b0 : decide (x12_1 < 0) = true := decide_eq_true c19
           clear c19
           have H' := Aside0.mk H
           clear H
           go_wp2
           repeat (go_quiet (fail); try go_wp2)
           go_meet
           case rel => exact ⟨_, (true), (by first | rfl | (simp; done) | (simp [*]; done)), H', ⟨by have := HK1.out; first | omega | exact Nat.le_refl _⟩, ⟨by (with_reducible repeat (first | apply Kd.R_alloc | apply Kd.R_drewN | apply Kd.R_drew)); exact HO_11.out⟩, ⟨by (with_reducible repeat first | refine b_N ?_ _ | refine b_D ?_ | refine b_A ?_ _); exact BK0.out⟩, ⟨by repeat (first | (with_reducible first | exact HB.out | apply below_alloc | apply pw_below_drewN | apply below_drew1) | exact HB.out)⟩⟩
          ·rw [if_neg c19] at H
           have c19b0 : decide (x12_1 < 0) = false := decide_eq_false c19
           clear c19
           have H' := Aside0.mk H
           clear H
           go_wp2
           repeat (go_quiet (fail); try go_wp2)
           go_meet
           case rel => exact ⟨_, (decide ((rd t868 (ji12)) < x12_1)), (by first | rfl | (simp; done) | (simp only [← hji12] <;> (first | rfl | simp)) | (simp [*]; done)), H', ⟨by have := HK1.out; first | omega | exact Nat.le_refl _⟩, ⟨by (with_reducible repeat (first | apply Kd.R_alloc | apply Kd.R_drewN | apply Kd.R_drew)); exact HO_11.out⟩, ⟨by (with_reducible repeat first | refine b_N ?_ _ | refine b_D ?_ | refine b_A ?_ _); exact BK0.out⟩, ⟨by repeat (first | (with_reducible first | exact HB.out | apply below_alloc | apply pw_below_drewN | apply below_drew1) | exact HB.out)⟩⟩
         ·rw [if_neg c18] at H
          have c18b0 : decide (a2 < 0) = false := decide_eq_false c18
          clear c18
          by_cases c20 : x13_1 = a2
          ·rw [if_pos c20] at H
           have c20b0 : (x13_1 == a2) = true := beq_iff_eq.mpr c20
           have c20b1 : (x13_1 != a2) = false := bne_eq_false_iff_eq.mpr c20
           clear c20
           by_cases c21 : x12_1 < 0
           ·rw [if_pos c21] at H
            have c21b0 : decide (x12_1 < 0) = true := decide_eq_true c21
            clear c21
            have H' := Aside0.mk H
            clear H
            go_wp2
            repeat (go_quiet (fail); try go_wp2)
            go_meet
            case rel => exact ⟨_, (true), (by first | rfl | (simp; done) | (simp [*]; done)), H', ⟨by have := HK1.out; first | omega | exact Nat.le_refl _⟩, ⟨by (with_reducible repeat (first | apply Kd.R_alloc | apply Kd.R_drewN | apply Kd.R_drew)); exact HO_11.out⟩, ⟨by (with_reducible repeat first | refine b_N ?_ _ | refine b_D ?_ | refine b_A ?_ _); exact BK0.out⟩, ⟨by repeat (first | (with_reducible first | exact HB.out | apply below_alloc | apply pw_below_drewN | apply below_drew1) | exact HB.out)⟩⟩
           ·rw [if_neg c21] at H
            have c21b0 : decide (x12_1 < 0) = false := decide_eq_false c21
            clear c21
            have H' := Aside0.mk H
            clear H
            go_wp2
            repeat (go_quiet (fail); try go_wp2)
            go_meet
            case rel => exact ⟨_, (decide ((rd t868 (ji12)) < x12_1)), (by first | rfl | (simp; done) | (simp only [← hji12] <;> (first | rfl | simp)) | (simp [*]; done)), H', ⟨by have := HK1.out; first | omega | exact Nat.le_refl _⟩, ⟨by (with_reducible repeat (first | apply Kd.R_alloc | apply Kd.R_drewN | apply Kd.R_drew)); exact HO_11.out⟩, ⟨by (with_reducible repeat first | refine b_N ?_ _ | refine b_D ?_ | refine b_A ?_ _); exact BK0.out⟩, ⟨by repeat (first | (with_reducible first | exact HB.out | apply below_alloc | apply pw_below_drewN | apply below_drew1) | exact HB.out)⟩⟩
          ·rw [if_neg c20] at H
           have c20b0 : (x13_1 == a2) = false := beq_eq_false_iff_ne.mpr c20
           have c20b1 : (x13_1 != a2) = true := bne_iff_ne.mpr c20
           have H' := Aside0.mk H
           clear H
           go_wp2
           repeat (go_quiet (fail); try go_wp2)
           go_meet
           case rel => exact ⟨_, (false), (by first | rfl | (simp; done) | (simp [*]; done)), H', ⟨by have := HK1.out; first | omega | exact Nat.le_refl _⟩, ⟨by (with_reducible repeat (first | apply Kd.R_alloc | apply Kd.R_drewN | apply Kd.R_drew)); exact HO_11.out⟩, ⟨by (with_reducible repeat first | refine b_N ?_ _ | refine b_D ?_ | refine b_A ?_ _); exact BK0.out⟩, ⟨by repeat (first | (with_reducible first | exact HB.out | apply below_alloc | apply pw_below_drewN | apply below_drew1) | exact HB.out)⟩⟩
        ·rw [if_neg c17] at H
         have c17b0 : decide (0 ≤ (rd t868 (ji12))) = false := decide_eq_false c17
         clear c17
         (first | rw [c17b0] | (simp only [i64_w, i32_w]; rw [c17b0]) | skip)
         have H' := Aside0.mk H
         clear H
         go_wp2
         repeat (go_quiet (fail); try go_wp2)
         go_meet
         case rel => exact ⟨_, (false), (by first | rfl | (simp; done) | (simp [*]; done)), H', ⟨by have := HK1.out; first | omega | exact Nat.le_refl _⟩, ⟨by (with_reducible repeat (first | apply Kd.R_alloc | apply Kd.R_drewN | apply Kd.R_drew)); exact HO_11.out⟩, ⟨by (with_reducible repeat first | refine b_N ?_ _ | refine b_D ?_ | refine b_A ?_ _); exact BK0.out⟩, ⟨by repeat (first | (with_reducible first | exact HB.out | apply below_alloc | apply pw_below_drewN | apply below_drew1) | exact HB.out)⟩⟩
       case rest =>
        clear HC15
        try clear c1
        try clear c2
        try clear p2
        try clear p6
        try clear c8
        try clear c8b0
        try clear p8
        try clear q8
        try clear hx8
        try clear c10
        try clear c10b0
        try clear c10b1
        try clear c13
        try clear c13b0
        try clear c14
        try clear c14b0
        try clear c17
        try clear c17b0
        try clear c18
        try clear c18b0
        try clear c19
        try clear c19b0
        try clear c20
        try clear c20b0
        try clear c20b1
        try clear c21
        try clear c21b0
        try clear hcz6_0
        try clear hfz6_0
        try clear hx871_0
        try clear p2
        try clear p871
        try clear q871
        obtain ⟨kq, x72_14, rfl, HA, HJ14, HO_11, BK0, HB⟩ := hcut
        cases kq with
        | zero => exact absurd HA.out (by simp [spec_l10Follow.j1])
        | succ kj14 =>
         have H := HA.out
         clear HA
         simp only [spec_l10Follow.j1] at H
         by_cases c22 : x72_14 = true
         ·subst c22
          have H1 : (spec_l10Follow.l0 kj14 a1 a2 (l0_0.length : Int) t868 (rd t868 (ji12)) (wrap64 (x13_1 + 1)) l0_0) = some (r1, r2) := by rw [if_pos rfl] at H; exact H
          clear H
          have H := H1
          clear H1
          have H' := Aside0.mk H
          clear H
          go_wp2
          repeat (go_quiet (fail); try go_wp2)
          go_roundg kj14
          case measure => have := HK1.out; have := HJ14.out; omega
          case rel => exact ⟨((rd t868 (ji12))), (wrap64 (x13_1 + 1)), (by first | rfl | (simp; done) | (simp only [← hji12] <;> (first | rfl | simp)) | (simp [*]; done)), (by first | rfl | (simp; done) | (simp [*]; done)), H', ⟨by have := HK1.out; have := HJ14.out; omega⟩, ⟨by (with_reducible repeat (first | apply Kd.R_alloc | apply Kd.R_drewN | apply Kd.R_drew)); exact HO_11.out⟩, ⟨by (with_reducible repeat first | refine b_N ?_ _ | refine b_D ?_ | refine b_A ?_ _); exact BK0.out⟩, ⟨by repeat (first | (with_reducible first | exact HB.out | apply below_alloc | apply pw_below_drewN | apply below_drew1) | exact HB.out)⟩⟩
         ·replace c22 := Bool.eq_false_iff.mpr c22
          subst c22
          have H1 : (spec_l10Follow.l0 kj14 a1 a2 (l0_0.length : Int) t868 x12_1 (wrap64 (x13_1 + 1)) l0_0) = some (r1, r2) := by rw [if_neg (show ¬ (false = true) by decide)] at H; exact H
          clear H
          have H := H1
          clear H1
          have H' := Aside0.mk H
          clear H
          go_wp2
          repeat (go_quiet (fail); try go_wp2)
          go_roundg kj14
          case measure => have := HK1.out; have := HJ14.out; omega
          case rel => exact ⟨(x12_1), (wrap64 (x13_1 + 1)), (by first | rfl | (simp; done) | (simp [*]; done)), (by first | rfl | (simp; done) | (simp [*]; done)), H', ⟨by have := HK1.out; have := HJ14.out; omega⟩, ⟨by (with_reducible repeat (first | apply Kd.R_alloc | apply Kd.R_drewN | apply Kd.R_drew)); exact HO_11.out⟩, ⟨by (with_reducible repeat first | refine b_N ?_ _ | refine b_D ?_ | refine b_A ?_ _); exact BK0.out⟩, ⟨by repeat (first | (with_reducible first | exact HB.out | apply below_alloc | apply pw_below_drewN | apply below_drew1) | exact HB.out)⟩⟩
      ·rw [if_neg c14] at H
       exact absurd H (by simp)
     ·rw [if_neg c13] at H
      exact absurd H (by simp)
    ·rw [if_neg c10] at H
     exact absurd H (by simp)
   ·rw [if_neg c8] at H
    have c8b0 : decide (x13_1 < (l0_0.length : Int)) = false := decide_eq_false c8
    clear c8
    obtain ⟨y872, hy872⟩ : ∃ y_ : List Int, y_ = (([] : List Int)) := ⟨_, rfl⟩
    replace H : (spec_l10Follow.l1 k1 a2 (l0_0.length : Int) t868 x12_1 y872 (([a1] : List Int)) (([x12_1] : List Int)) 0 l0_0) = some (r1, r2) := by first | (rw [hy872]; with_reducible exact H) | (have H2_ := (Option.bind_some _ _).symm.trans H; rw [hy872]; with_reducible exact H2_) | (have H2_ := (Option.bind_some _ _).symm.trans H; with_reducible exact H2_) | with_reducible exact H | (rw [hy872]; exact H) | exact H
    have Ny872 := Aside0.mk hy872
    clear hy872
    obtain ⟨y875, hy875⟩ : ∃ y_ : List Int, y_ = (([a1] : List Int)) := ⟨_, rfl⟩
    replace H : (spec_l10Follow.l1 k1 a2 (l0_0.length : Int) t868 x12_1 y872 y875 (([x12_1] : List Int)) 0 l0_0) = some (r1, r2) := by first | (rw [hy875]; with_reducible exact H) | (have H2_ := (Option.bind_some _ _).symm.trans H; rw [hy875]; with_reducible exact H2_) | (have H2_ := (Option.bind_some _ _).symm.trans H; with_reducible exact H2_) | with_reducible exact H | (rw [hy875]; exact H) | exact H
    have Ny875 := Aside0.mk hy875
    clear hy875
    obtain ⟨y878, hy878⟩ : ∃ y_ : List Int, y_ = (([x12_1] : List Int)) := ⟨_, rfl⟩
    replace H : (spec_l10Follow.l1 k1 a2 (l0_0.length : Int) t868 x12_1 y872 y875 y878 0 l0_0) = some (r1, r2) := by first | (rw [hy878]; with_reducible exact H) | (have H2_ := (Option.bind_some _ _).symm.trans H; rw [hy878]; with_reducible exact H2_) | (have H2_ := (Option.bind_some _ _).symm.trans H; with_reducible exact H2_) | with_reducible exact H | (rw [hy878]; exact H) | exact H
    have Ny878 := Aside0.mk hy878
    clear hy878
    have H' := Aside0.mk H
    clear H
    go_wp2_with (first | ((with_reducible refine gate_dst (N := 74) rfl ?_); (try (refine gate_guard (by rfl) ?_; dsimp only)); refine Kd.R_lit (Kd.int .i64) _ 2 ?hg (N := 74) ?hd (xs := ([] : List Int)) (inner := []) (ok := fun _ => True) (okp := fun _ => True) ?hr ?hp (fun _ hk => hk) trivial (Below.refl _ _) (Nat.le_refl _) (by simp) ?_; (case hd => rfl); (case hg => rfl); (case hr => first | (go_simp; done) | (go_simp; rfl)); (case hp => exact (Reps.none _ _)); intro v873 w23 ho24 hb hg_ hnew_; clear hg_ hnew_; (first | rw [← Ny872.out] at ho24 | (simp only [Int.reduceToNat] at ho24; rw [← Ny872.out] at ho24)); have n0_ := Aside0.mk (Kd.R_elder' (by (with_reducible repeat first | apply k_A | apply k_N | apply k_D); exact HO_11.out) (Kd.R_base ho24) hb); have n1_ := Aside0.mk (Kd.R_lower (Kd.R_new' ho24 (Kd.R_lt (by (with_reducible repeat first | apply k_A | apply k_N | apply k_D); exact HO_11.out))) (below_size (by repeat (first | (with_reducible first | exact HB.out | apply below_alloc | apply pw_below_drewN | apply below_drew1) | exact HB.out)))); have n2_ := Aside0.mk (blk_below (g := g0) (o := .cells #[.slice A0_0 l0_0.length c0_0] 44 (0, 0)) (by (with_reducible repeat first | refine b_N ?_ _ | refine b_D ?_ | refine b_A ?_ _); exact BK0.out) hb); have n3_ := Aside0.mk (below_step (by repeat (first | (with_reducible first | exact HB.out | apply below_alloc | apply pw_below_drewN | apply below_drew1) | exact HB.out)) hb); clear HO_11; clear BK0; clear HB; have HO_11 := n0_; have HO874 := n1_; have BK0 := n2_; have HB := n3_; clear n0_ n1_ n2_ n3_; clear hb ho24) | ((with_reducible refine gate_dst (N := 76) rfl ?_); (try (refine gate_guard (by rfl) ?_; dsimp only)); refine Kd.R_lit (Kd.int .i64) _ 2 ?hg (N := 76) ?hd (xs := ([a1] : List Int)) (inner := [.int .i64 a1]) (ok := fun _ => True) (okp := fun _ => True) ?hr ?hp (fun _ hk => hk) trivial (Below.refl _ _) (Nat.le_refl _) (by simp) ?_; (case hd => rfl); (case hg => rfl); (case hr => first | (go_simp; done) | (go_simp; rfl)); (case hp => exact (Reps.one (show Kd.M (Kd.int .i64) _ _ _ a1 [.int .i64 a1] from rfl) (Reps.none _ _))); intro v876 w25 ho26 hb hg_ hnew_; clear hg_ hnew_; (first | rw [← Ny875.out] at ho26 | (simp only [Int.reduceToNat] at ho26; rw [← Ny875.out] at ho26)); have n0_ := Aside0.mk (Kd.R_elder' (by (with_reducible repeat first | apply k_A | apply k_N | apply k_D); exact HO_11.out) (Kd.R_base ho26) hb); have n1_ := Aside0.mk (Kd.R_elder' (by (with_reducible repeat first | apply k_A | apply k_N | apply k_D); exact HO874.out) (Kd.R_base ho26) hb); have n2_ := Aside0.mk (Kd.R_lower (Kd.R_new' (Kd.R_new' ho26 (Kd.R_lt (by (with_reducible repeat first | apply k_A | apply k_N | apply k_D); exact HO_11.out))) (Kd.R_lt (by (with_reducible repeat first | apply k_A | apply k_N | apply k_D); exact HO874.out))) (below_size (by repeat (first | (with_reducible first | exact HB.out | apply below_alloc | apply pw_below_drewN | apply below_drew1) | exact HB.out)))); have n3_ := Aside0.mk (blk_below (g := g0) (o := .cells #[.slice A0_0 l0_0.length c0_0] 44 (0, 0)) (by (with_reducible repeat first | refine b_N ?_ _ | refine b_D ?_ | refine b_A ?_ _); exact BK0.out) hb); have n4_ := Aside0.mk (below_step (by repeat (first | (with_reducible first | exact HB.out | apply below_alloc | apply pw_below_drewN | apply below_drew1) | exact HB.out)) hb); clear HO_11; clear HO874; clear BK0; clear HB; have HO_11 := n0_; have HO874 := n1_; have HO877 := n2_; have BK0 := n3_; have HB := n4_; clear n0_ n1_ n2_ n3_ n4_; clear hb ho26) | ((with_reducible refine gate_dst (N := 78) rfl ?_); (try (refine gate_guard (by rfl) ?_; dsimp only)); refine Kd.R_lit (Kd.int .i64) _ 2 ?hg (N := 78) ?hd (xs := ([x12_1] : List Int)) (inner := [.int .i64 x12_1]) (ok := fun _ => True) (okp := fun _ => True) ?hr ?hp (fun _ hk => hk) trivial (Below.refl _ _) (Nat.le_refl _) (by simp) ?_; (case hd => rfl); (case hg => rfl); (case hr => first | (go_simp; done) | (go_simp; rfl)); (case hp => exact (Reps.one (show Kd.M (Kd.int .i64) _ _ _ x12_1 [.int .i64 x12_1] from rfl) (Reps.none _ _))); intro v879 w27 ho28 hb hg_ hnew_; clear hg_ hnew_; (first | rw [← Ny878.out] at ho28 | (simp only [Int.reduceToNat] at ho28; rw [← Ny878.out] at ho28)); have n0_ := Aside0.mk (Kd.R_elder' (by (with_reducible repeat first | apply k_A | apply k_N | apply k_D); exact HO_11.out) (Kd.R_base ho28) hb); have n1_ := Aside0.mk (Kd.R_elder' (by (with_reducible repeat first | apply k_A | apply k_N | apply k_D); exact HO874.out) (Kd.R_base ho28) hb); have n2_ := Aside0.mk (Kd.R_elder' (by (with_reducible repeat first | apply k_A | apply k_N | apply k_D); exact HO877.out) (Kd.R_base ho28) hb); have n3_ := Aside0.mk (Kd.R_lower (Kd.R_new' (Kd.R_new' (Kd.R_new' ho28 (Kd.R_lt (by (with_reducible repeat first | apply k_A | apply k_N | apply k_D); exact HO_11.out))) (Kd.R_lt (by (with_reducible repeat first | apply k_A | apply k_N | apply k_D); exact HO874.out))) (Kd.R_lt (by (with_reducible repeat first | apply k_A | apply k_N | apply k_D); exact HO877.out))) (below_size (by repeat (first | (with_reducible first | exact HB.out | apply below_alloc | apply pw_below_drewN | apply below_drew1) | exact HB.out)))); have n4_ := Aside0.mk (blk_below (g := g0) (o := .cells #[.slice A0_0 l0_0.length c0_0] 44 (0, 0)) (by (with_reducible repeat first | refine b_N ?_ _ | refine b_D ?_ | refine b_A ?_ _); exact BK0.out) hb); have n5_ := Aside0.mk (below_step (by repeat (first | (with_reducible first | exact HB.out | apply below_alloc | apply pw_below_drewN | apply below_drew1) | exact HB.out)) hb); clear HO_11; clear HO874; clear HO877; clear BK0; clear HB; have HO_11 := n0_; have HO874 := n1_; have HO877 := n2_; have HO880 := n3_; have BK0 := n4_; have HB := n5_; clear n0_ n1_ n2_ n3_ n4_ n5_; clear hb ho28))
    repeat (go_quiet (first | ((with_reducible refine gate_dst (N := 74) rfl ?_); (try (refine gate_guard (by rfl) ?_; dsimp only)); refine Kd.R_lit (Kd.int .i64) _ 2 ?hg (N := 74) ?hd (xs := ([] : List Int)) (inner := []) (ok := fun _ => True) (okp := fun _ => True) ?hr ?hp (fun _ hk => hk) trivial (Below.refl _ _) (Nat.le_refl _) (by simp) ?_; (case hd => rfl); (case hg => rfl); (case hr => first | (go_simp; done) | (go_simp; rfl)); (case hp => exact (Reps.none _ _)); intro v873 w23 ho24 hb hg_ hnew_; clear hg_ hnew_; (first | rw [← Ny872.out] at ho24 | (simp only [Int.reduceToNat] at ho24; rw [← Ny872.out] at ho24)); have n0_ := Aside0.mk (Kd.R_elder' (by (with_reducible repeat first | apply k_A | apply k_N | apply k_D); exact HO_11.out) (Kd.R_base ho24) hb); have n1_ := Aside0.mk (Kd.R_lower (Kd.R_new' ho24 (Kd.R_lt (by (with_reducible repeat first | apply k_A | apply k_N | apply k_D); exact HO_11.out))) (below_size (by repeat (first | (with_reducible first | exact HB.out | apply below_alloc | apply pw_below_drewN | apply below_drew1) | exact HB.out)))); have n2_ := Aside0.mk (blk_below (g := g0) (o := .cells #[.slice A0_0 l0_0.length c0_0] 44 (0, 0)) (by (with_reducible repeat first | refine b_N ?_ _ | refine b_D ?_ | refine b_A ?_ _); exact BK0.out) hb); have n3_ := Aside0.mk (below_step (by repeat (first | (with_reducible first | exact HB.out | apply below_alloc | apply pw_below_drewN | apply below_drew1) | exact HB.out)) hb); clear HO_11; clear BK0; clear HB; have HO_11 := n0_; have HO874 := n1_; have BK0 := n2_; have HB := n3_; clear n0_ n1_ n2_ n3_; clear hb ho24) | ((with_reducible refine gate_dst (N := 76) rfl ?_); (try (refine gate_guard (by rfl) ?_; dsimp only)); refine Kd.R_lit (Kd.int .i64) _ 2 ?hg (N := 76) ?hd (xs := ([a1] : List Int)) (inner := [.int .i64 a1]) (ok := fun _ => True) (okp := fun _ => True) ?hr ?hp (fun _ hk => hk) trivial (Below.refl _ _) (Nat.le_refl _) (by simp) ?_; (case hd => rfl); (case hg => rfl); (case hr => first | (go_simp; done) | (go_simp; rfl)); (case hp => exact (Reps.one (show Kd.M (Kd.int .i64) _ _ _ a1 [.int .i64 a1] from rfl) (Reps.none _ _))); intro v876 w25 ho26 hb hg_ hnew_; clear hg_ hnew_; (first | rw [← Ny875.out] at ho26 | (simp only [Int.reduceToNat] at ho26; rw [← Ny875.out] at ho26)); have n0_ := Aside0.mk (Kd.R_elder' (by (with_reducible repeat first | apply k_A | apply k_N | apply k_D); exact HO_11.out) (Kd.R_base ho26) hb); have n1_ := Aside0.mk (Kd.R_elder' (by (with_reducible repeat first | apply k_A | apply k_N | apply k_D); exact HO874.out) (Kd.R_base ho26) hb); have n2_ := Aside0.mk (Kd.R_lower (Kd.R_new' (Kd.R_new' ho26 (Kd.R_lt (by (with_reducible repeat first | apply k_A | apply k_N | apply k_D); exact HO_11.out))) (Kd.R_lt (by (with_reducible repeat first | apply k_A | apply k_N | apply k_D); exact HO874.out))) (below_size (by repeat (first | (with_reducible first | exact HB.out | apply below_alloc | apply pw_below_drewN | apply below_drew1) | exact HB.out)))); have n3_ := Aside0.mk (blk_below (g := g0) (o := .cells #[.slice A0_0 l0_0.length c0_0] 44 (0, 0)) (by (with_reducible repeat first | refine b_N ?_ _ | refine b_D ?_ | refine b_A ?_ _); exact BK0.out) hb); have n4_ := Aside0.mk (below_step (by repeat (first | (with_reducible first | exact HB.out | apply below_alloc | apply pw_below_drewN | apply below_drew1) | exact HB.out)) hb); clear HO_11; clear HO874; clear BK0; clear HB; have HO_11 := n0_; have HO874 := n1_; have HO877 := n2_; have BK0 := n3_; have HB := n4_; clear n0_ n1_ n2_ n3_ n4_; clear hb ho26) | ((with_reducible refine gate_dst (N := 78) rfl ?_); (try (refine gate_guard (by rfl) ?_; dsimp only)); refine Kd.R_lit (Kd.int .i64) _ 2 ?hg (N := 78) ?hd (xs := ([x12_1] : List Int)) (inner := [.int .i64 x12_1]) (ok := fun _ => True) (okp := fun _ => True) ?hr ?hp (fun _ hk => hk) trivial (Below.refl _ _) (Nat.le_refl _) (by simp) ?_; (case hd => rfl); (case hg => rfl); (case hr => first | (go_simp; done) | (go_simp; rfl)); (case hp => exact (Reps.one (show Kd.M (Kd.int .i64) _ _ _ x12_1 [.int .i64 x12_1] from rfl) (Reps.none _ _))); intro v879 w27 ho28 hb hg_ hnew_; clear hg_ hnew_; (first | rw [← Ny878.out] at ho28 | (simp only [Int.reduceToNat] at ho28; rw [← Ny878.out] at ho28)); have n0_ := Aside0.mk (Kd.R_elder' (by (with_reducible repeat first | apply k_A | apply k_N | apply k_D); exact HO_11.out) (Kd.R_base ho28) hb); have n1_ := Aside0.mk (Kd.R_elder' (by (with_reducible repeat first | apply k_A | apply k_N | apply k_D); exact HO874.out) (Kd.R_base ho28) hb); have n2_ := Aside0.mk (Kd.R_elder' (by (with_reducible repeat first | apply k_A | apply k_N | apply k_D); exact HO877.out) (Kd.R_base ho28) hb); have n3_ := Aside0.mk (Kd.R_lower (Kd.R_new' (Kd.R_new' (Kd.R_new' ho28 (Kd.R_lt (by (with_reducible repeat first | apply k_A | apply k_N | apply k_D); exact HO_11.out))) (Kd.R_lt (by (with_reducible repeat first | apply k_A | apply k_N | apply k_D); exact HO874.out))) (Kd.R_lt (by (with_reducible repeat first | apply k_A | apply k_N | apply k_D); exact HO877.out))) (below_size (by repeat (first | (with_reducible first | exact HB.out | apply below_alloc | apply pw_below_drewN | apply below_drew1) | exact HB.out)))); have n4_ := Aside0.mk (blk_below (g := g0) (o := .cells #[.slice A0_0 l0_0.length c0_0] 44 (0, 0)) (by (with_reducible repeat first | refine b_N ?_ _ | refine b_D ?_ | refine b_A ?_ _); exact BK0.out) hb); have n5_ := Aside0.mk (below_step (by repeat (first | (with_reducible first | exact HB.out | apply below_alloc | apply pw_below_drewN | apply below_drew1) | exact HB.out)) hb); clear HO_11; clear HO874; clear HO877; clear BK0; clear HB; have HO_11 := n0_; have HO874 := n1_; have HO877 := n2_; have HO880 := n3_; have BK0 := n4_; have HB := n5_; clear n0_ n1_ n2_ n3_ n4_ n5_; clear hb ho28)); try go_wp2_with (first | ((with_reducible refine gate_dst (N := 74) rfl ?_); (try (refine gate_guard (by rfl) ?_; dsimp only)); refine Kd.R_lit (Kd.int .i64) _ 2 ?hg (N := 74) ?hd (xs := ([] : List Int)) (inner := []) (ok := fun _ => True) (okp := fun _ => True) ?hr ?hp (fun _ hk => hk) trivial (Below.refl _ _) (Nat.le_refl _) (by simp) ?_; (case hd => rfl); (case hg => rfl); (case hr => first | (go_simp; done) | (go_simp; rfl)); (case hp => exact (Reps.none _ _)); intro v873 w23 ho24 hb hg_ hnew_; clear hg_ hnew_; (first | rw [← Ny872.out] at ho24 | (simp only [Int.reduceToNat] at ho24; rw [← Ny872.out] at ho24)); have n0_ := Aside0.mk (Kd.R_elder' (by (with_reducible repeat first | apply k_A | apply k_N | apply k_D); exact HO_11.out) (Kd.R_base ho24) hb); have n1_ := Aside0.mk (Kd.R_lower (Kd.R_new' ho24 (Kd.R_lt (by (with_reducible repeat first | apply k_A | apply k_N | apply k_D); exact HO_11.out))) (below_size (by repeat (first | (with_reducible first | exact HB.out | apply below_alloc | apply pw_below_drewN | apply below_drew1) | exact HB.out)))); have n2_ := Aside0.mk (blk_below (g := g0) (o := .cells #[.slice A0_0 l0_0.length c0_0] 44 (0, 0)) (by (with_reducible repeat first | refine b_N ?_ _ | refine b_D ?_ | refine b_A ?_ _); exact BK0.out) hb); have n3_ := Aside0.mk (below_step (by repeat (first | (with_reducible first | exact HB.out | apply below_alloc | apply pw_below_drewN | apply below_drew1) | exact HB.out)) hb); clear HO_11; clear BK0; clear HB; have HO_11 := n0_; have HO874 := n1_; have BK0 := n2_; have HB := n3_; clear n0_ n1_ n2_ n3_; clear hb ho24) | ((with_reducible refine gate_dst (N := 76) rfl ?_); (try (refine gate_guard (by rfl) ?_; dsimp only)); refine Kd.R_lit (Kd.int .i64) _ 2 ?hg (N := 76) ?hd (xs := ([a1] : List Int)) (inner := [.int .i64 a1]) (ok := fun _ => True) (okp := fun _ => True) ?hr ?hp (fun _ hk => hk) trivial (Below.refl _ _) (Nat.le_refl _) (by simp) ?_; (case hd => rfl); (case hg => rfl); (case hr => first | (go_simp; done) | (go_simp; rfl)); (case hp => exact (Reps.one (show Kd.M (Kd.int .i64) _ _ _ a1 [.int .i64 a1] from rfl) (Reps.none _ _))); intro v876 w25 ho26 hb hg_ hnew_; clear hg_ hnew_; (first | rw [← Ny875.out] at ho26 | (simp only [Int.reduceToNat] at ho26; rw [← Ny875.out] at ho26)); have n0_ := Aside0.mk (Kd.R_elder' (by (with_reducible repeat first | apply k_A | apply k_N | apply k_D); exact HO_11.out) (Kd.R_base ho26) hb); have n1_ := Aside0.mk (Kd.R_elder' (by (with_reducible repeat first | apply k_A | apply k_N | apply k_D); exact HO874.out) (Kd.R_base ho26) hb); have n2_ := Aside0.mk (Kd.R_lower (Kd.R_new' (Kd.R_new' ho26 (Kd.R_lt (by (with_reducible repeat first | apply k_A | apply k_N | apply k_D); exact HO_11.out))) (Kd.R_lt (by (with_reducible repeat first | apply k_A | apply k_N | apply k_D); exact HO874.out))) (below_size (by repeat (first | (with_reducible first | exact HB.out | apply below_alloc | apply pw_below_drewN | apply below_drew1) | exact HB.out)))); have n3_ := Aside0.mk (blk_below (g := g0) (o := .cells #[.slice A0_0 l0_0.length c0_0] 44 (0, 0)) (by (with_reducible repeat first | refine b_N ?_ _ | refine b_D ?_ | refine b_A ?_ _); exact BK0.out) hb); have n4_ := Aside0.mk (below_step (by repeat (first | (with_reducible first | exact HB.out | apply below_alloc | apply pw_below_drewN | apply below_drew1) | exact HB.out)) hb); clear HO_11; clear HO874; clear BK0; clear HB; have HO_11 := n0_; have HO874 := n1_; have HO877 := n2_; have BK0 := n3_; have HB := n4_; clear n0_ n1_ n2_ n3_ n4_; clear hb ho26) | ((with_reducible refine gate_dst (N := 78) rfl ?_); (try (refine gate_guard (by rfl) ?_; dsimp only)); refine Kd.R_lit (Kd.int .i64) _ 2 ?hg (N := 78) ?hd (xs := ([x12_1] : List Int)) (inner := [.int .i64 x12_1]) (ok := fun _ => True) (okp := fun _ => True) ?hr ?hp (fun _ hk => hk) trivial (Below.refl _ _) (Nat.le_refl _) (by simp) ?_; (case hd => rfl); (case hg => rfl); (case hr => first | (go_simp; done) | (go_simp; rfl)); (case hp => exact (Reps.one (show Kd.M (Kd.int .i64) _ _ _ x12_1 [.int .i64 x12_1] from rfl) (Reps.none _ _))); intro v879 w27 ho28 hb hg_ hnew_; clear hg_ hnew_; (first | rw [← Ny878.out] at ho28 | (simp only [Int.reduceToNat] at ho28; rw [← Ny878.out] at ho28)); have n0_ := Aside0.mk (Kd.R_elder' (by (with_reducible repeat first | apply k_A | apply k_N | apply k_D); exact HO_11.out) (Kd.R_base ho28) hb); have n1_ := Aside0.mk (Kd.R_elder' (by (with_reducible repeat first | apply k_A | apply k_N | apply k_D); exact HO874.out) (Kd.R_base ho28) hb); have n2_ := Aside0.mk (Kd.R_elder' (by (with_reducible repeat first | apply k_A | apply k_N | apply k_D); exact HO877.out) (Kd.R_base ho28) hb); have n3_ := Aside0.mk (Kd.R_lower (Kd.R_new' (Kd.R_new' (Kd.R_new' ho28 (Kd.R_lt (by (with_reducible repeat first | apply k_A | apply k_N | apply k_D); exact HO_11.out))) (Kd.R_lt (by (with_reducible repeat first | apply k_A | apply k_N | apply k_D); exact HO874.out))) (Kd.R_lt (by (with_reducible repeat first | apply k_A | apply k_N | apply k_D); exact HO877.out))) (below_size (by repeat (first | (with_reducible first | exact HB.out | apply below_alloc | apply pw_below_drewN | apply below_drew1) | exact HB.out)))); have n4_ := Aside0.mk (blk_below (g := g0) (o := .cells #[.slice A0_0 l0_0.length c0_0] 44 (0, 0)) (by (with_reducible repeat first | refine b_N ?_ _ | refine b_D ?_ | refine b_A ?_ _); exact BK0.out) hb); have n5_ := Aside0.mk (below_step (by repeat (first | (with_reducible first | exact HB.out | apply below_alloc | apply pw_below_drewN | apply below_drew1) | exact HB.out)) hb); clear HO_11; clear HO874; clear HO877; clear BK0; clear HB; have HO_11 := n0_; have HO874 := n1_; have HO877 := n2_; have HO880 := n3_; have BK0 := n4_; have HB := n5_; clear n0_ n1_ n2_ n3_ n4_ n5_; clear hb ho28)))
    go_loopg [15, 16, 17, 18] k1 (fun kq v15 v16 v17 v18 w' => ∃ (x15_2 : List Int) (x16_2 : List Int) (x17_2 : List Int) (x18_2 : Int), v18 = .int .i64 x18_2 ∧ Aside0 (spec_l10Follow.l1 kq a2 (l0_0.length : Int) t868 x12_1 x15_2 x16_2 x17_2 x18_2 l0_0 = some (r1, r2)) ∧ Aside0 (kq ≤ k1) ∧ Aside0 (Kd.R (Kd.int .i64) 2 w' w.heap.size (fun k_ => some k_ ≠ (v15 : Value).ownBlock ∧ some k_ ≠ (v16 : Value).ownBlock ∧ some k_ ≠ (v17 : Value).ownBlock) v869 t868) ∧ Aside0 (Kd.R (Kd.int .i64) 2 w' w.heap.size (fun k_ => some k_ ≠ (v869 : Value).ownBlock ∧ some k_ ≠ (v16 : Value).ownBlock ∧ some k_ ≠ (v17 : Value).ownBlock) v15 x15_2) ∧ Aside0 (Kd.R (Kd.int .i64) 2 w' w.heap.size (fun k_ => some k_ ≠ (v869 : Value).ownBlock ∧ some k_ ≠ (v15 : Value).ownBlock ∧ some k_ ≠ (v17 : Value).ownBlock) v16 x16_2) ∧ Aside0 (Kd.R (Kd.int .i64) 2 w' w.heap.size (fun k_ => some k_ ≠ (v869 : Value).ownBlock ∧ some k_ ≠ (v15 : Value).ownBlock ∧ some k_ ≠ (v16 : Value).ownBlock) v17 x17_2) ∧ Aside0 (w'.heap[g0]? = some (.cells #[(.slice A0_0 l0_0.length c0_0)] 44 (0, 0))) ∧ Aside0 (Below w.heap.size w w'))
    case atStart => exact ⟨(y872), (y875), (y878), (0), (by first | rfl | (simp; done) | (simp [*]; done)), H', ⟨Nat.le_refl _⟩, ⟨by (with_reducible repeat (first | apply Kd.R_alloc | apply Kd.R_drewN | apply Kd.R_drew)); exact Kd.R_mono HO_11.out (fun _ hk => ⟨hk.1.1.2, ⟨hk.1.2, hk.2⟩⟩)⟩, ⟨by (with_reducible repeat (first | apply Kd.R_alloc | apply Kd.R_drewN | apply Kd.R_drew)); exact Kd.R_mono HO874.out (fun _ hk => ⟨hk.1.1.2, ⟨hk.1.2, hk.2⟩⟩)⟩, ⟨by (with_reducible repeat (first | apply Kd.R_alloc | apply Kd.R_drewN | apply Kd.R_drew)); exact Kd.R_mono HO877.out (fun _ hk => ⟨hk.1.1.2, ⟨hk.1.2, hk.2⟩⟩)⟩, ⟨by (with_reducible repeat (first | apply Kd.R_alloc | apply Kd.R_drewN | apply Kd.R_drew)); exact Kd.R_mono HO880.out (fun _ hk => ⟨hk.1.1.2, ⟨hk.1.2, hk.2⟩⟩)⟩, ⟨by (with_reducible repeat first | refine b_N ?_ _ | refine b_D ?_ | refine b_A ?_ _); exact BK0.out⟩, ⟨by repeat (first | (with_reducible first | exact HB.out | apply below_alloc | apply pw_below_drewN | apply below_drew1) | exact HB.out)⟩⟩
    case round =>
     as_aux_lemma =>
     clear H'
     try clear c1
     try clear c2
     try clear p2
     try clear p6
     try clear c8
     try clear c8b0
     try clear p8
     try clear q8
     try clear hx8
     try clear c10
     try clear c10b0
     try clear c10b1
     try clear c13
     try clear c13b0
     try clear c14
     try clear c14b0
     try clear c17
     try clear c17b0
     try clear c18
     try clear c18b0
     try clear c19
     try clear c19b0
     try clear c20
     try clear c20b0
     try clear c20b1
     try clear c21
     try clear c21b0
     try clear c22
     try clear hcz6_0
     try clear hfz6_0
     try clear hx871_0
     try clear p2
     try clear p6
     try clear p8
     try clear p871
     try clear q8
     try clear q871
     obtain ⟨x15_2, x16_2, x17_2, x18_2, rfl, HA, HK2, HO_11, HO_15, HO_16, HO_17, BK0, HB⟩ := hrel
     cases gk with
     | zero => exact absurd HA.out (by simp [spec_l10Follow.l1])
     | succ k2 =>
      have H := HA.out
      clear HA
      simp only [spec_l10Follow.l1] at H
      by_cases c29 : (x15_2.length : Int) < (l0_0.length : Int)
      ·rw [if_pos c29] at H
       have c29b0 : decide ((x15_2.length : Int) < (l0_0.length : Int)) = true := decide_eq_true c29
       have c29b1 : decide (x15_2.length < l0_0.length) = true := decide_eq_true (Int.ofNat_lt.mp c29)
       clear c29
       have H' := Aside0.mk H
       clear H
       obtain ⟨Ao30, co30, eo30⟩ := Kd.R_slice HO_15.out
       subst eo30
       go_wp2
       repeat (go_quiet (fail); try go_wp2)
       go_loopg [15, 16, 17, 18, 19, 20] k2 (fun kq v15 v16 v17 v18 v19 v20 w' => ∃ (x15_3 : List Int) (x16_3 : List Int) (x17_3 : List Int) (x18_3 : Int) (x19_3 : Bool) (x20_3 : Int), v18 = .int .i64 x18_3 ∧ v19 = .bool x19_3 ∧ v20 = .int .i64 x20_3 ∧ Aside0 (spec_l10Follow.l2 kq a2 (l0_0.length : Int) t868 x12_1 x15_3 x16_3 x17_3 x18_3 x19_3 x20_3 l0_0 = some (r1, r2)) ∧ Aside0 (kq ≤ k2) ∧ Aside0 (Kd.R (Kd.int .i64) 2 w' w.heap.size (fun k_ => some k_ ≠ (v15 : Value).ownBlock ∧ some k_ ≠ (v16 : Value).ownBlock ∧ some k_ ≠ (v17 : Value).ownBlock) v869 t868) ∧ Aside0 (Kd.R (Kd.int .i64) 2 w' w.heap.size (fun k_ => some k_ ≠ (v869 : Value).ownBlock ∧ some k_ ≠ (v16 : Value).ownBlock ∧ some k_ ≠ (v17 : Value).ownBlock) v15 x15_3) ∧ Aside0 (Kd.R (Kd.int .i64) 2 w' w.heap.size (fun k_ => some k_ ≠ (v869 : Value).ownBlock ∧ some k_ ≠ (v15 : Value).ownBlock ∧ some k_ ≠ (v17 : Value).ownBlock) v16 x16_3) ∧ Aside0 (Kd.R (Kd.int .i64) 2 w' w.heap.size (fun k_ => some k_ ≠ (v869 : Value).ownBlock ∧ some k_ ≠ (v15 : Value).ownBlock ∧ some k_ ≠ (v16 : Value).ownBlock) v17 x17_3) ∧ Aside0 (w'.heap[g0]? = some (.cells #[(.slice A0_0 l0_0.length c0_0)] 44 (0, 0))) ∧ Aside0 (Below w.heap.size w w'))
       case atStart => exact ⟨(x15_2), (x16_2), (x17_2), (x18_2), (false), (0), (by first | rfl | (simp; done) | (simp [*]; done)), (by first | rfl | (simp; done) | (simp [*]; done)), (by first | rfl | (simp; done) | (simp [*]; done)), H', ⟨Nat.le_refl _⟩, ⟨by (with_reducible repeat (first | apply Kd.R_alloc | apply Kd.R_drewN | apply Kd.R_drew)); exact HO_11.out⟩, ⟨by (with_reducible repeat (first | apply Kd.R_alloc | apply Kd.R_drewN | apply Kd.R_drew)); exact HO_15.out⟩, ⟨by (with_reducible repeat (first | apply Kd.R_alloc | apply Kd.R_drewN | apply Kd.R_drew)); exact HO_16.out⟩, ⟨by (with_reducible repeat (first | apply Kd.R_alloc | apply Kd.R_drewN | apply Kd.R_drew)); exact HO_17.out⟩, ⟨by (with_reducible repeat first | refine b_N ?_ _ | refine b_D ?_ | refine b_A ?_ _); exact BK0.out⟩, ⟨by repeat (first | (with_reducible first | exact HB.out | apply below_alloc | apply pw_below_drewN | apply below_drew1) | exact HB.out)⟩⟩
       case round =>
        as_aux_lemma =>
        clear H'
        try clear c1
        try clear c2
        try clear p2
        try clear p6
        try clear c8
        try clear c8b0
        try clear p8
        try clear q8
        try clear hx8
        try clear c10
        try clear c10b0
        try clear c10b1
        try clear c13
        try clear c13b0
        try clear c14
        try clear c14b0
        try clear c17
        try clear c17b0
        try clear c18
        try clear c18b0
        try clear c19
        try clear c19b0
        try clear c20
        try clear c20b0
        try clear c20b1
        try clear c21
        try clear c21b0
        try clear c22
        try clear c29
        try clear c29b0
        try clear c29b1
        try clear hcz6_0
        try clear hfz6_0
        try clear hx871_0
        try clear p2
        try clear p6
        try clear p8
        try clear p871
        try clear q8
        try clear q871
        obtain ⟨x15_3, x16_3, x17_3, x18_3, x19_3, x20_3, rfl, rfl, rfl, HA, HK3, HO_11, HO_15, HO_16, HO_17, BK0, HB⟩ := hrel
        cases gk with
        | zero => exact absurd HA.out (by simp [spec_l10Follow.l2])
        | succ k3 =>
         have H := HA.out
         clear HA
         simp only [spec_l10Follow.l2] at H
         have HC31 := Aside0.mk H
         clear H
         go_upto_region 17 with (fail)
         repeat (go_quiet (fail); go_upto_region 17 with (fail))
         go_cut [89] (fun v89 wc => ∃ (kq : Nat) (x89_30 : Bool), v89 = .bool x89_30 ∧ Aside0 (spec_l10Follow.j4 kq a2 (l0_0.length : Int) t868 x12_1 x15_3 x16_3 x17_3 x18_3 x19_3 x20_3 x89_30 l0_0 = some (r1, r2)) ∧ Aside0 (kq ≤ k3) ∧ Aside0 (Kd.R (Kd.int .i64) 2 wc w.heap.size (fun k_ => some k_ ≠ (u15 : Value).ownBlock ∧ some k_ ≠ (u16 : Value).ownBlock ∧ some k_ ≠ (u17 : Value).ownBlock) v869 t868) ∧ Aside0 (Kd.R (Kd.int .i64) 2 wc w.heap.size (fun k_ => some k_ ≠ (v869 : Value).ownBlock ∧ some k_ ≠ (u16 : Value).ownBlock ∧ some k_ ≠ (u17 : Value).ownBlock) u15 x15_3) ∧ Aside0 (Kd.R (Kd.int .i64) 2 wc w.heap.size (fun k_ => some k_ ≠ (v869 : Value).ownBlock ∧ some k_ ≠ (u15 : Value).ownBlock ∧ some k_ ≠ (u17 : Value).ownBlock) u16 x16_3) ∧ Aside0 (Kd.R (Kd.int .i64) 2 wc w.heap.size (fun k_ => some k_ ≠ (v869 : Value).ownBlock ∧ some k_ ≠ (u15 : Value).ownBlock ∧ some k_ ≠ (u16 : Value).ownBlock) u17 x17_3) ∧ Aside0 (wc.heap[g0]? = some (.cells #[(.slice A0_0 l0_0.length c0_0)] 44 (0, 0))) ∧ Aside0 (Below w.heap.size w wc))
         case first =>
          have H := HC31.out
          clear HC31
          by_cases c32 : x20_3 < (l0_0.length : Int)
          ·rw [if_pos c32] at H
           have c32b0 : decide (x20_3 < (l0_0.length : Int)) = true := decide_eq_true c32
           clear c32
           (first | rw [c32b0] | (simp only [i64_w, i32_w]; rw [c32b0]) | skip)
           have H' := Aside0.mk H
           clear H
           go_wp2
           repeat (go_quiet (fail); try go_wp2)
           go_meet
           case rel => exact ⟨_, (!x19_3), (by first | rfl | (simp; done) | (simp [*]; done)), H', ⟨by have := HK1.out; have := HK2.out; have := HK3.out; first | omega | exact Nat.le_refl _⟩, ⟨by (with_reducible repeat (first | apply Kd.R_alloc | apply Kd.R_drewN | apply Kd.R_drew)); exact HO_11.out⟩, ⟨by (with_reducible repeat (first | apply Kd.R_alloc | apply Kd.R_drewN | apply Kd.R_drew)); exact HO_15.out⟩, ⟨by (with_reducible repeat (first | apply Kd.R_alloc | apply Kd.R_drewN | apply Kd.R_drew)); exact HO_16.out⟩, ⟨by (with_reducible repeat (first | apply Kd.R_alloc | apply Kd.R_drewN | apply Kd.R_drew)); exact HO_17.out⟩, ⟨by (with_reducible repeat first | refine b_N ?_ _ | refine b_D ?_ | refine b_A ?_ _); exact BK0.out⟩, ⟨by repeat (first | (with_reducible first | exact HB.out | apply below_alloc | apply pw_below_drewN | apply below_drew1) | exact HB.out)⟩⟩
          ·rw [if_neg c32] at H
           have c32b0 : decide (x20_3 < (l0_0.length : Int)) = false := decide_eq_false c32
           clear c32
           (first | rw [c32b0] | (simp only [i64_w, i32_w]; rw [c32b0]) | skip)
           have H' := Aside0.mk H
           clear H
           go_wp2
           repeat (go_quiet (fail); try go_wp2)
           go_meet
           case rel => exact ⟨_, (false), (by first | rfl | (simp; done) | (simp [*]; done)), H', ⟨by have := HK1.out; have := HK2.out; have := HK3.out; first | omega | exact Nat.le_refl _⟩, ⟨by (with_reducible repeat (first | apply Kd.R_alloc | apply Kd.R_drewN | apply Kd.R_drew)); exact HO_11.out⟩, ⟨by (with_reducible repeat (first | apply Kd.R_alloc | apply Kd.R_drewN | apply Kd.R_drew)); exact HO_15.out⟩, ⟨by (with_reducible repeat (first | apply Kd.R_alloc | apply Kd.R_drewN | apply Kd.R_drew)); exact HO_16.out⟩, ⟨by (with_reducible repeat (first | apply Kd.R_alloc | apply Kd.R_drewN | apply Kd.R_drew)); exact HO_17.out⟩, ⟨by (with_reducible repeat first | refine b_N ?_ _ | refine b_D ?_ | refine b_A ?_ _); exact BK0.out⟩, ⟨by repeat (first | (with_reducible first | exact HB.out | apply below_alloc | apply pw_below_drewN | apply below_drew1) | exact HB.out)⟩⟩
         case rest =>
          clear HC31
          try clear c1
          try clear c2
          try clear p2
          try clear c3
          try clear p6
          try clear c8
          try clear c8b0
          try clear p8
          try clear q8
          try clear hx8
          try clear c10
          try clear c10b0
          try clear c10b1
          try clear c13
          try clear c13b0
          try clear c14
          try clear c14b0
          try clear c17
          try clear c17b0
          try clear c18
          try clear c18b0
          try clear c19
          try clear c19b0
          try clear c20
          try clear c20b0
          try clear c20b1
          try clear c21
          try clear c21b0
          try clear c22
          try clear c29
          try clear c29b0
          try clear c29b1
          try clear c32
          try clear c32b0
          try clear hcz6_0
          try clear hfz6_0
          try clear hx871_0
          try clear p2
          try clear p6
          try clear p8
          try clear p871
          try clear q8
          try clear q871
          obtain ⟨kq, x89_30, rfl, HA, HJ30, HO_11, HO_15, HO_16, HO_17, BK0, HB⟩ := hcut
          cases kq with
          | zero => exact absurd HA.out (by simp [spec_l10Follow.j4])
          | succ kj30 =>
           have H := HA.out
           clear HA
           simp only [spec_l10Follow.j4] at H
           by_cases c33 : x89_30 = true
           ·subst c33
            have H1 : (if 0 ≤ (IntKind.u64.wrap (x20_3)) then (if (Go.bits .and .i64 (shr .i64 x18_3 (IntKind.u64.wrap (x20_3))) 1) = 1 then (spec_l10Follow.j5 kj30 a2 (l0_0.length : Int) t868 x12_1 x15_3 x16_3 x17_3 x18_3 x19_3 x20_3 true l0_0) else (if (x15_3.length : Int) = 0 then (if a2 ≥ 0 then (spec_l10Follow.j5 kj30 a2 (l0_0.length : Int) t868 x12_1 x15_3 x16_3 x17_3 x18_3 x19_3 x20_3 (x20_3 != a2) l0_0) else (spec_l10Follow.j5 kj30 a2 (l0_0.length : Int) t868 x12_1 x15_3 x16_3 x17_3 x18_3 x19_3 x20_3 false l0_0)) else (spec_l10Follow.j5 kj30 a2 (l0_0.length : Int) t868 x12_1 x15_3 x16_3 x17_3 x18_3 x19_3 x20_3 false l0_0))) else (none)) = some (r1, r2) := by rw [if_pos rfl] at H; exact H
            clear H
            have H := H1
            clear H1
            have HC34 := Aside0.mk H
            clear H
            go_upto_region 19 with (fail)
            repeat (go_quiet (fail); go_upto_region 19 with (fail))
            go_cut [111] (fun v111 wc => ∃ (kq : Nat) (x111_33 : Bool), v111 = .bool x111_33 ∧ Aside0 (spec_l10Follow.j5 kq a2 (l0_0.length : Int) t868 x12_1 x15_3 x16_3 x17_3 x18_3 x19_3 x20_3 x111_33 l0_0 = some (r1, r2)) ∧ Aside0 (kq ≤ kj30) ∧ Aside0 (Kd.R (Kd.int .i64) 2 wc w.heap.size (fun k_ => some k_ ≠ (u15 : Value).ownBlock ∧ some k_ ≠ (u16 : Value).ownBlock ∧ some k_ ≠ (u17 : Value).ownBlock) v869 t868) ∧ Aside0 (Kd.R (Kd.int .i64) 2 wc w.heap.size (fun k_ => some k_ ≠ (v869 : Value).ownBlock ∧ some k_ ≠ (u16 : Value).ownBlock ∧ some k_ ≠ (u17 : Value).ownBlock) u15 x15_3) ∧ Aside0 (Kd.R (Kd.int .i64) 2 wc w.heap.size (fun k_ => some k_ ≠ (v869 : Value).ownBlock ∧ some k_ ≠ (u15 : Value).ownBlock ∧ some k_ ≠ (u17 : Value).ownBlock) u16 x16_3) ∧ Aside0 (Kd.R (Kd.int .i64) 2 wc w.heap.size (fun k_ => some k_ ≠ (v869 : Value).ownBlock ∧ some k_ ≠ (u15 : Value).ownBlock ∧ some k_ ≠ (u16 : Value).ownBlock) u17 x17_3) ∧ Aside0 (wc.heap[g0]? = some (.cells #[(.slice A0_0 l0_0.length c0_0)] 44 (0, 0))) ∧ Aside0 (Below w.heap.size w wc))
            case first =>
             have H := HC34.out
             clear HC34
             obtain ⟨ji35, hji35⟩ : ∃ j_ : Int, (IntKind.u64.wrap (x20_3)) = j_ := ⟨_, rfl⟩
             replace H : (if 0 ≤ (ji35) then (if (Go.bits .and .i64 (shr .i64 x18_3 (ji35)) 1) = 1 then (spec_l10Follow.j5 kj30 a2 (l0_0.length : Int) t868 x12_1 x15_3 x16_3 x17_3 x18_3 x19_3 x20_3 true l0_0) else (if (x15_3.length : Int) = 0 then (if a2 ≥ 0 then (spec_l10Follow.j5 kj30 a2 (l0_0.length : Int) t868 x12_1 x15_3 x16_3 x17_3 x18_3 x19_3 x20_3 (x20_3 != a2) l0_0) else (spec_l10Follow.j5 kj30 a2 (l0_0.length : Int) t868 x12_1 x15_3 x16_3 x17_3 x18_3 x19_3 x20_3 false l0_0)) else (spec_l10Follow.j5 kj30 a2 (l0_0.length : Int) t868 x12_1 x15_3 x16_3 x17_3 x18_3 x19_3 x20_3 false l0_0))) else (none)) = some (r1, r2) := by first | (rw [hji35] at H; exact H) | (simp only [hji35] at H ⊢; exact H)
             by_cases c36 : 0 ≤ (ji35)
             ·rw [if_pos c36] at H
              have c36b0 := eq_true c36
              have c36b1 : decide (0 ≤ (ji35)) = true := decide_eq_true c36
              clear c36
              obtain ⟨ji37, hji37⟩ : ∃ j_ : Int, (shr .i64 x18_3 (ji35)) = j_ := ⟨_, rfl⟩
              replace H : (if (Go.bits .and .i64 (ji37) 1) = 1 then (spec_l10Follow.j5 kj30 a2 (l0_0.length : Int) t868 x12_1 x15_3 x16_3 x17_3 x18_3 x19_3 x20_3 true l0_0) else (if (x15_3.length : Int) = 0 then (if a2 ≥ 0 then (spec_l10Follow.j5 kj30 a2 (l0_0.length : Int) t868 x12_1 x15_3 x16_3 x17_3 x18_3 x19_3 x20_3 (x20_3 != a2) l0_0) else (spec_l10Follow.j5 kj30 a2 (l0_0.length : Int) t868 x12_1 x15_3 x16_3 x17_3 x18_3 x19_3 x20_3 false l0_0)) else (spec_l10Follow.j5 kj30 a2 (l0_0.length : Int) t868 x12_1 x15_3 x16_3 x17_3 x18_3 x19_3 x20_3 false l0_0))) = some (r1, r2) := by first | (rw [hji37] at H; exact H) | (simp only [hji37] at H ⊢; exact H)
              have hji37_ : (x18_3 / 2 ^ min (ji35).toNat 64) = ji37 := hji37
              have hji37z : (ji35) ≤ 64 → (x18_3 / 2 ^ (ji35).toNat) = ji37 := shr_small hji37
              by_cases c38 : (Go.bits .and .i64 (ji37) 1) = 1
              ·rw [if_pos c38] at H
               have c38b0 : ((Go.bits .and .i64 (ji37) 1) == 1) = true := beq_iff_eq.mpr c38
               have c38b1 : ((Go.bits .and .i64 (ji37) 1) != 1) = false := bne_eq_false_iff_eq.mpr c38
               clear c38
               (first | rw [c38b0] | (simp only [i64_w, i32_w]; rw [c38b0]) | skip)
               have H' := Aside0.mk H
               clear H
               go_wp2
               repeat (go_quiet (fail); try go_wp2)
               go_meet
               case rel => exact ⟨_, (true), (by first | rfl | (simp; done) | (simp [*]; done)), H', ⟨by have := HK1.out; have := HK2.out; have := HK3.out; have := HJ30.out; first | omega | exact Nat.le_refl _⟩, ⟨by (with_reducible repeat (first | apply Kd.R_alloc | apply Kd.R_drewN | apply Kd.R_drew)); exact HO_11.out⟩, ⟨by (with_reducible repeat (first | apply Kd.R_alloc | apply Kd.R_drewN | apply Kd.R_drew)); exact HO_15.out⟩, ⟨by (with_reducible repeat (first | apply Kd.R_alloc | apply Kd.R_drewN | apply Kd.R_drew)); exact HO_16.out⟩, ⟨by (with_reducible repeat (first | apply Kd.R_alloc | apply Kd.R_drewN | apply Kd.R_drew)); exact HO_17.out⟩, ⟨by (with_reducible repeat first | refine b_N ?_ _ | refine b_D ?_ | refine b_A ?_ _); exact BK0.out⟩, ⟨by repeat (first | (with_reducible first | exact HB.out | apply below_alloc | apply pw_below_drewN | apply below_drew1) | exact HB.out)⟩⟩
              ·rw [if_neg c38] at H
               have c38b0 : ((Go.bits .and .i64 (ji37) 1) == 1) = false := beq_eq_false_iff_ne.mpr c38
               have c38b1 : ((Go.bits .and .i64 (ji37) 1) != 1) = true := bne_iff_ne.mpr c38
               (first | rw [c38b0] | (simp only [i64_w, i32_w]; rw [c38b0]) | skip)
               by_cases c39 : (x15_3.length : Int) = 0
               ·rw [if_pos c39] at H
                have c39b0 : ((x15_3.length : Int) == 0) = true := beq_iff_eq.mpr c39
                have c39b1 : ((x15_3.length : Int) != 0) = false := bne_eq_false_iff_eq.mpr c39
                clear c39
                by_cases c40 : a2 ≥ 0
                ·rw [if_pos c40] at H
                 have c40b0 : decide (0 ≤ a2) = true := decide_eq_true c40
                 clear c40
                 have H' := Aside0.mk H
                 clear H
                 obtain ⟨Ao41, co41, eo41⟩ := Kd.R_slice HO_15.out
                 subst eo41
                 go_wp2
                 repeat (go_quiet (fail); try go_wp2)
                 go_meet
                 case rel => exact ⟨_, ((x20_3 != a2)), (by first | rfl | (simp; done) | (simp [*]; done)), H', ⟨by have := HK1.out; have := HK2.out; have := HK3.out; have := HJ30.out; first | omega | exact Nat.le_refl _⟩, ⟨by (with_reducible repeat (first | apply Kd.R_alloc | apply Kd.R_drewN | apply Kd.R_drew)); exact HO_11.out⟩, ⟨by (with_reducible repeat (first | apply Kd.R_alloc | apply Kd.R_drewN | apply Kd.R_drew)); exact HO_15.out⟩, ⟨by (with_reducible repeat (first | apply Kd.R_alloc | apply Kd.R_drewN | apply Kd.R_drew)); exact HO_16.out⟩, ⟨by (with_reducible repeat (first | apply Kd.R_alloc | apply Kd.R_drewN | apply Kd.R_drew)); exact HO_17.out⟩, ⟨by (with_reducible repeat first | refine b_N ?_ _ | refine b_D ?_ | refine b_A ?_ _); exact BK0.out⟩, ⟨by repeat (first | (with_reducible first | exact HB.out | apply below_alloc | apply pw_below_drewN | apply below_drew1) | exact HB.out)⟩⟩
                ·rw [if_neg c40] at H
                 have c40b0 : decide (0 ≤ a2) = false := decide_eq_false c40
                 clear c40
                 have H' := Aside0.mk H
                 clear H
                 obtain ⟨Ao42, co42, eo42⟩ := Kd.R_slice HO_15.out
                 subst eo42
                 go_wp2
                 repeat (go_quiet (fail); try go_wp2)
                 go_meet
                 case rel => exact ⟨_, (false), (by first | rfl | (simp; done) | (simp [*]; done)), H', ⟨by have := HK1.out; have := HK2.out; have := HK3.out; have := HJ30.out; first | omega | exact Nat.le_refl _⟩, ⟨by (with_reducible repeat (first | apply Kd.R_alloc | apply Kd.R_drewN | apply Kd.R_drew)); exact HO_11.out⟩, ⟨by (with_reducible repeat (first | apply Kd.R_alloc | apply Kd.R_drewN | apply Kd.R_drew)); exact HO_15.out⟩, ⟨by (with_reducible repeat (first | apply Kd.R_alloc | apply Kd.R_drewN | apply Kd.R_drew)); exact HO_16.out⟩, ⟨by (with_reducible repeat (first | apply Kd.R_alloc | apply Kd.R_drewN | apply Kd.R_drew)); exact HO_17.out⟩, ⟨by (with_reducible repeat first | refine b_N ?_ _ | refine b_D ?_ | refine b_A ?_ _); exact BK0.out⟩, ⟨by repeat (first | (with_reducible first | exact HB.out | apply below_alloc | apply pw_below_drewN | apply below_drew1) | exact HB.out)⟩⟩
               ·rw [if_neg c39] at H
                have c39b0 : ((x15_3.length : Int) == 0) = false := beq_eq_false_iff_ne.mpr c39
                have c39b1 : ((x15_3.length : Int) != 0) = true := bne_iff_ne.mpr c39
                have c39b2 : ¬ (x15_3 = []) := fun h_ => c39 (by rw [h_]; rfl)
                have H' := Aside0.mk H
                clear H
                obtain ⟨Ao43, co43, eo43⟩ := Kd.R_slice HO_15.out
                subst eo43
                go_wp2
                repeat (go_quiet (fail); try go_wp2)
                go_meet
                case rel => exact ⟨_, (false), (by first | rfl | (simp; done) | (simp [*]; done)), H', ⟨by have := HK1.out; have := HK2.out; have := HK3.out; have := HJ30.out; first | omega | exact Nat.le_refl _⟩, ⟨by (with_reducible repeat (first | apply Kd.R_alloc | apply Kd.R_drewN | apply Kd.R_drew)); exact HO_11.out⟩, ⟨by (with_reducible repeat (first | apply Kd.R_alloc | apply Kd.R_drewN | apply Kd.R_drew)); exact HO_15.out⟩, ⟨by (with_reducible repeat (first | apply Kd.R_alloc | apply Kd.R_drewN | apply Kd.R_drew)); exact HO_16.out⟩, ⟨by (with_reducible repeat (first | apply Kd.R_alloc | apply Kd.R_drewN | apply Kd.R_drew)); exact HO_17.out⟩, ⟨by (with_reducible repeat first | refine b_N ?_ _ | refine b_D ?_ | refine b_A ?_ _); exact BK0.out⟩, ⟨by repeat (first | (with_reducible first | exact HB.out | apply below_alloc | apply pw_below_drewN | apply below_drew1) | exact HB.out)⟩⟩
             ·rw [if_neg c36] at H
              exact absurd H (by simp)
            case rest =>
             clear HC34
             try clear c1
             try clear c2
             try clear p2
             try clear c3
             try clear c4
             try clear p6
             try clear c8
             try clear c8b0
             try clear p8
             try clear q8
             try clear hx8
             try clear c10
             try clear c10b0
             try clear c10b1
             try clear c13
             try clear c13b0
             try clear c14
             try clear c14b0
             try clear c17
             try clear c17b0
             try clear c18
             try clear c18b0
             try clear c19
             try clear c19b0
             try clear c20
             try clear c20b0
             try clear c20b1
             try clear c21
             try clear c21b0
             try clear c22
             try clear c29
             try clear c29b0
             try clear c29b1
             try clear c32
             try clear c32b0
             try clear c33
             try clear c36
             try clear c36b0
             try clear c36b1
             try clear c38
             try clear c38b0
             try clear c38b1
             try clear c39
             try clear c39b0
             try clear c39b1
             try clear c39b2
             try clear c40
             try clear c40b0
             try clear hcz6_0
             try clear hfz6_0
             try clear hx871_0
             try clear p2
             try clear p6
             try clear p8
             try clear p871
             try clear q8
             try clear q871
             obtain ⟨kq, x111_33, rfl, HA, HJ33, HO_11, HO_15, HO_16, HO_17, BK0, HB⟩ := hcut
             cases kq with
             | zero => exact absurd HA.out (by simp [spec_l10Follow.j5])
             | succ kj33 =>
              have H := HA.out
              clear HA
              simp only [spec_l10Follow.j5] at H
              by_cases c44 : x111_33 = true
              ·subst c44
               have H1 : (spec_l10Follow.l2 kj33 a2 (l0_0.length : Int) t868 x12_1 x15_3 x16_3 x17_3 x18_3 x19_3 (wrap64 (x20_3 + 1)) l0_0) = some (r1, r2) := by rw [if_pos rfl] at H; exact H
               clear H
               have H := H1
               clear H1
               have H' := Aside0.mk H
               clear H
               go_wp2
               repeat (go_quiet (fail); try go_wp2)
               go_roundg kj33
               case measure => have := HK1.out; have := HK2.out; have := HK3.out; have := HJ30.out; have := HJ33.out; omega
               case rel => exact ⟨(x15_3), (x16_3), (x17_3), (x18_3), (x19_3), (wrap64 (x20_3 + 1)), (by first | rfl | (simp; done) | (simp [*]; done)), (by first | rfl | (simp; done) | (simp [*]; done)), (by first | rfl | (simp; done) | (simp [*]; done)), H', ⟨by have := HK1.out; have := HK2.out; have := HK3.out; have := HJ30.out; have := HJ33.out; omega⟩, ⟨by (with_reducible repeat (first | apply Kd.R_alloc | apply Kd.R_drewN | apply Kd.R_drew)); exact HO_11.out⟩, ⟨by (with_reducible repeat (first | apply Kd.R_alloc | apply Kd.R_drewN | apply Kd.R_drew)); exact HO_15.out⟩, ⟨by (with_reducible repeat (first | apply Kd.R_alloc | apply Kd.R_drewN | apply Kd.R_drew)); exact HO_16.out⟩, ⟨by (with_reducible repeat (first | apply Kd.R_alloc | apply Kd.R_drewN | apply Kd.R_drew)); exact HO_17.out⟩, ⟨by (with_reducible repeat first | refine b_N ?_ _ | refine b_D ?_ | refine b_A ?_ _); exact BK0.out⟩, ⟨by repeat (first | (with_reducible first | exact HB.out | apply below_alloc | apply pw_below_drewN | apply below_drew1) | exact HB.out)⟩⟩
              ·replace c44 := Bool.eq_false_iff.mpr c44
               subst c44
               have H1 : (if 0 ≤ (IntKind.u64.wrap (x20_3)) then (spec_l10Follow.l3 kj33 a2 (l0_0.length : Int) t868 x12_1 x15_3 x16_3 x17_3 x18_3 x19_3 x20_3 (([] : List Int)) (([] : List Int)) (wrap64 ((wrap64 ((wrap64 ((Go.bits .or .i64 x18_3 (shl .i64 1 (IntKind.u64.wrap (x20_3)))) * 9)) + x20_3)) * 9)) 0 l0_0) else (none)) = some (r1, r2) := by rw [if_neg (show ¬ (false = true) by decide)] at H; exact H
               clear H
               have H := H1
               clear H1
               obtain ⟨y881, hy881⟩ : ∃ y_ : List Int, y_ = (([] : List Int)) := ⟨_, rfl⟩
               replace H : (if 0 ≤ (IntKind.u64.wrap (x20_3)) then (spec_l10Follow.l3 kj33 a2 (l0_0.length : Int) t868 x12_1 x15_3 x16_3 x17_3 x18_3 x19_3 x20_3 y881 (([] : List Int)) (wrap64 ((wrap64 ((wrap64 ((Go.bits .or .i64 x18_3 (shl .i64 1 (IntKind.u64.wrap (x20_3)))) * 9)) + x20_3)) * 9)) 0 l0_0) else (none)) = some (r1, r2) := by first | (rw [hy881]; with_reducible exact H) | (have H2_ := (Option.bind_some _ _).symm.trans H; rw [hy881]; with_reducible exact H2_) | (have H2_ := (Option.bind_some _ _).symm.trans H; with_reducible exact H2_) | with_reducible exact H | (rw [hy881]; exact H) | exact H
               have Ny881 := Aside0.mk hy881
               clear hy881
               obtain ⟨y884, hy884⟩ : ∃ y_ : List Int, y_ = (([] : List Int)) := ⟨_, rfl⟩
               replace H : (if 0 ≤ (IntKind.u64.wrap (x20_3)) then (spec_l10Follow.l3 kj33 a2 (l0_0.length : Int) t868 x12_1 x15_3 x16_3 x17_3 x18_3 x19_3 x20_3 y881 y884 (wrap64 ((wrap64 ((wrap64 ((Go.bits .or .i64 x18_3 (shl .i64 1 (IntKind.u64.wrap (x20_3)))) * 9)) + x20_3)) * 9)) 0 l0_0) else (none)) = some (r1, r2) := by first | (rw [hy884]; with_reducible exact H) | (have H2_ := (Option.bind_some _ _).symm.trans H; rw [hy884]; with_reducible exact H2_) | (have H2_ := (Option.bind_some _ _).symm.trans H; with_reducible exact H2_) | with_reducible exact H | (rw [hy884]; exact H) | exact H
               have Ny884 := Aside0.mk hy884
               clear hy884
               obtain ⟨ji45, hji45⟩ : ∃ j_ : Int, (IntKind.u64.wrap (x20_3)) = j_ := ⟨_, rfl⟩
               replace H : (if 0 ≤ (ji45) then (spec_l10Follow.l3 kj33 a2 (l0_0.length : Int) t868 x12_1 x15_3 x16_3 x17_3 x18_3 x19_3 x20_3 y881 y884 (wrap64 ((wrap64 ((wrap64 ((Go.bits .or .i64 x18_3 (shl .i64 1 (ji45))) * 9)) + x20_3)) * 9)) 0 l0_0) else (none)) = some (r1, r2) := by first | (rw [hji45] at H; exact H) | (simp only [hji45] at H ⊢; exact H)
               by_cases c46 : 0 ≤ (ji45)
               ·rw [if_pos c46] at H
                have c46b0 := eq_true c46
                have c46b1 : decide (0 ≤ (ji45)) = true := decide_eq_true c46
                clear c46
                obtain ⟨ji47, hji47⟩ : ∃ j_ : Int, (shl .i64 1 (ji45)) = j_ := ⟨_, rfl⟩
                replace H : (spec_l10Follow.l3 kj33 a2 (l0_0.length : Int) t868 x12_1 x15_3 x16_3 x17_3 x18_3 x19_3 x20_3 y881 y884 (wrap64 ((wrap64 ((wrap64 ((Go.bits .or .i64 x18_3 (ji47)) * 9)) + x20_3)) * 9)) 0 l0_0) = some (r1, r2) := by first | (rw [hji47] at H; exact H) | (simp only [hji47] at H ⊢; exact H)
                have hji47_ : (IntKind.i64.wrap (1 * 2 ^ min (ji45).toNat 64)) = ji47 := hji47
                have hji47z : (ji45) ≤ 64 → (IntKind.i64.wrap (1 * 2 ^ (ji45).toNat)) = ji47 := shl_small hji47
                have hji47u : (IntKind.i64.wrap (2 ^ min (ji45).toNat 64)) = ji47 := by have h_ := hji47_; rw [Int.one_mul] at h_; exact h_
                have hji47v : (ji45) ≤ 64 → (IntKind.i64.wrap (2 ^ (ji45).toNat)) = ji47 := fun hle_ => by have h_ := hji47z hle_; rw [Int.one_mul] at h_; exact h_
                have hji47y : (wrap64 (1 * 2 ^ min (ji45).toNat 64)) = ji47 := (i64_w _).symm.trans hji47_
                have hji47x : (ji45) ≤ 64 → (wrap64 (1 * 2 ^ (ji45).toNat)) = ji47 := fun h_ => (i64_w _).symm.trans (hji47z h_)
                have H' := Aside0.mk H
                clear H
                go_wp2_with (first | ((with_reducible refine gate_dst (N := 112) rfl ?_); (try (refine gate_guard (by rfl) ?_; dsimp only)); refine Kd.R_lit (Kd.int .i64) _ 2 ?hg (N := 112) ?hd (xs := ([] : List Int)) (inner := []) (ok := fun _ => True) (okp := fun _ => True) ?hr ?hp (fun _ hk => hk) trivial (Below.refl _ _) (Nat.le_refl _) (by simp) ?_; (case hd => rfl); (case hg => rfl); (case hr => first | (go_simp; done) | (go_simp; rfl)); (case hp => exact (Reps.none _ _)); intro v882 w48 ho49 hb hg_ hnew_; clear hg_ hnew_; (first | rw [← Ny881.out] at ho49 | (simp only [Int.reduceToNat] at ho49; rw [← Ny881.out] at ho49)); have n0_ := Aside0.mk (Kd.R_elder' (by (with_reducible repeat first | apply k_A | apply k_N | apply k_D); exact HO_11.out) (Kd.R_base ho49) hb); have n1_ := Aside0.mk (Kd.R_elder' (by (with_reducible repeat first | apply k_A | apply k_N | apply k_D); exact HO_15.out) (Kd.R_base ho49) hb); have n2_ := Aside0.mk (Kd.R_elder' (by (with_reducible repeat first | apply k_A | apply k_N | apply k_D); exact HO_16.out) (Kd.R_base ho49) hb); have n3_ := Aside0.mk (Kd.R_elder' (by (with_reducible repeat first | apply k_A | apply k_N | apply k_D); exact HO_17.out) (Kd.R_base ho49) hb); have n4_ := Aside0.mk (Kd.R_lower (Kd.R_new' (Kd.R_new' (Kd.R_new' (Kd.R_new' ho49 (Kd.R_lt (by (with_reducible repeat first | apply k_A | apply k_N | apply k_D); exact HO_11.out))) (Kd.R_lt (by (with_reducible repeat first | apply k_A | apply k_N | apply k_D); exact HO_15.out))) (Kd.R_lt (by (with_reducible repeat first | apply k_A | apply k_N | apply k_D); exact HO_16.out))) (Kd.R_lt (by (with_reducible repeat first | apply k_A | apply k_N | apply k_D); exact HO_17.out))) (below_size (by repeat (first | (with_reducible first | exact HB.out | apply below_alloc | apply pw_below_drewN | apply below_drew1) | exact HB.out)))); have n5_ := Aside0.mk (blk_below (g := g0) (o := .cells #[.slice A0_0 l0_0.length c0_0] 44 (0, 0)) (by (with_reducible repeat first | refine b_N ?_ _ | refine b_D ?_ | refine b_A ?_ _); exact BK0.out) hb); have n6_ := Aside0.mk (below_step (by repeat (first | (with_reducible first | exact HB.out | apply below_alloc | apply pw_below_drewN | apply below_drew1) | exact HB.out)) hb); clear HO_11; clear HO_15; clear HO_16; clear HO_17; clear BK0; clear HB; have HO_11 := n0_; have HO_15 := n1_; have HO_16 := n2_; have HO_17 := n3_; have HO883 := n4_; have BK0 := n5_; have HB := n6_; clear n0_ n1_ n2_ n3_ n4_ n5_ n6_; clear hb ho49) | ((with_reducible refine gate_dst (N := 113) rfl ?_); (try (refine gate_guard (by rfl) ?_; dsimp only)); refine Kd.R_lit (Kd.int .i64) _ 2 ?hg (N := 113) ?hd (xs := ([] : List Int)) (inner := []) (ok := fun _ => True) (okp := fun _ => True) ?hr ?hp (fun _ hk => hk) trivial (Below.refl _ _) (Nat.le_refl _) (by simp) ?_; (case hd => rfl); (case hg => rfl); (case hr => first | (go_simp; done) | (go_simp; rfl)); (case hp => exact (Reps.none _ _)); intro v885 w50 ho51 hb hg_ hnew_; clear hg_ hnew_; (first | rw [← Ny884.out] at ho51 | (simp only [Int.reduceToNat] at ho51; rw [← Ny884.out] at ho51)); have n0_ := Aside0.mk (Kd.R_elder' (by (with_reducible repeat first | apply k_A | apply k_N | apply k_D); exact HO_11.out) (Kd.R_base ho51) hb); have n1_ := Aside0.mk (Kd.R_elder' (by (with_reducible repeat first | apply k_A | apply k_N | apply k_D); exact HO_15.out) (Kd.R_base ho51) hb); have n2_ := Aside0.mk (Kd.R_elder' (by (with_reducible repeat first | apply k_A | apply k_N | apply k_D); exact HO_16.out) (Kd.R_base ho51) hb); have n3_ := Aside0.mk (Kd.R_elder' (by (with_reducible repeat first | apply k_A | apply k_N | apply k_D); exact HO_17.out) (Kd.R_base ho51) hb); have n4_ := Aside0.mk (Kd.R_elder' (by (with_reducible repeat first | apply k_A | apply k_N | apply k_D); exact HO883.out) (Kd.R_base ho51) hb); have n5_ := Aside0.mk (Kd.R_lower (Kd.R_new' (Kd.R_new' (Kd.R_new' (Kd.R_new' (Kd.R_new' ho51 (Kd.R_lt (by (with_reducible repeat first | apply k_A | apply k_N | apply k_D); exact HO_11.out))) (Kd.R_lt (by (with_reducible repeat first | apply k_A | apply k_N | apply k_D); exact HO_15.out))) (Kd.R_lt (by (with_reducible repeat first | apply k_A | apply k_N | apply k_D); exact HO_16.out))) (Kd.R_lt (by (with_reducible repeat first | apply k_A | apply k_N | apply k_D); exact HO_17.out))) (Kd.R_lt (by (with_reducible repeat first | apply k_A | apply k_N | apply k_D); exact HO883.out))) (below_size (by repeat (first | (with_reducible first | exact HB.out | apply below_alloc | apply pw_below_drewN | apply below_drew1) | exact HB.out)))); have n6_ := Aside0.mk (blk_below (g := g0) (o := .cells #[.slice A0_0 l0_0.length c0_0] 44 (0, 0)) (by (with_reducible repeat first | refine b_N ?_ _ | refine b_D ?_ | refine b_A ?_ _); exact BK0.out) hb); have n7_ := Aside0.mk (below_step (by repeat (first | (with_reducible first | exact HB.out | apply below_alloc | apply pw_below_drewN | apply below_drew1) | exact HB.out)) hb); clear HO_11; clear HO_15; clear HO_16; clear HO_17; clear HO883; clear BK0; clear HB; have HO_11 := n0_; have HO_15 := n1_; have HO_16 := n2_; have HO_17 := n3_; have HO883 := n4_; have HO886 := n5_; have BK0 := n6_; have HB := n7_; clear n0_ n1_ n2_ n3_ n4_ n5_ n6_ n7_; clear hb ho51))
                repeat (go_quiet (first | ((with_reducible refine gate_dst (N := 112) rfl ?_); (try (refine gate_guard (by rfl) ?_; dsimp only)); refine Kd.R_lit (Kd.int .i64) _ 2 ?hg (N := 112) ?hd (xs := ([] : List Int)) (inner := []) (ok := fun _ => True) (okp := fun _ => True) ?hr ?hp (fun _ hk => hk) trivial (Below.refl _ _) (Nat.le_refl _) (by simp) ?_; (case hd => rfl); (case hg => rfl); (case hr => first | (go_simp; done) | (go_simp; rfl)); (case hp => exact (Reps.none _ _)); intro v882 w48 ho49 hb hg_ hnew_; clear hg_ hnew_; (first | rw [← Ny881.out] at ho49 | (simp only [Int.reduceToNat] at ho49; rw [← Ny881.out] at ho49)); have n0_ := Aside0.mk (Kd.R_elder' (by (with_reducible repeat first | apply k_A | apply k_N | apply k_D); exact HO_11.out) (Kd.R_base ho49) hb); have n1_ := Aside0.mk (Kd.R_elder' (by (with_reducible repeat first | apply k_A | apply k_N | apply k_D); exact HO_15.out) (Kd.R_base ho49) hb); have n2_ := Aside0.mk (Kd.R_elder' (by (with_reducible repeat first | apply k_A | apply k_N | apply k_D); exact HO_16.out) (Kd.R_base ho49) hb); have n3_ := Aside0.mk (Kd.R_elder' (by (with_reducible repeat first | apply k_A | apply k_N | apply k_D); exact HO_17.out) (Kd.R_base ho49) hb); have n4_ := Aside0.mk (Kd.R_lower (Kd.R_new' (Kd.R_new' (Kd.R_new' (Kd.R_new' ho49 (Kd.R_lt (by (with_reducible repeat first | apply k_A | apply k_N | apply k_D); exact HO_11.out))) (Kd.R_lt (by (with_reducible repeat first | apply k_A | apply k_N | apply k_D); exact HO_15.out))) (Kd.R_lt (by (with_reducible repeat first | apply k_A | apply k_N | apply k_D); exact HO_16.out))) (Kd.R_lt (by (with_reducible repeat first | apply k_A | apply k_N | apply k_D); exact HO_17.out))) (below_size (by repeat (first | (with_reducible first | exact HB.out | apply below_alloc | apply pw_below_drewN | apply below_drew1) | exact HB.out)))); have n5_ := Aside0.mk (blk_below (g := g0) (o := .cells #[.slice A0_0 l0_0.length c0_0] 44 (0, 0)) (by (with_reducible repeat first | refine b_N ?_ _ | refine b_D ?_ | refine b_A ?_ _); exact BK0.out) hb); have n6_ := Aside0.mk (below_step (by repeat (first | (with_reducible first | exact HB.out | apply below_alloc | apply pw_below_drewN | apply below_drew1) | exact HB.out)) hb); clear HO_11; clear HO_15; clear HO_16; clear HO_17; clear BK0; clear HB; have HO_11 := n0_; have HO_15 := n1_; have HO_16 := n2_; have HO_17 := n3_; have HO883 := n4_; have BK0 := n5_; have HB := n6_; clear n0_ n1_ n2_ n3_ n4_ n5_ n6_; clear hb ho49) | ((with_reducible refine gate_dst (N := 113) rfl ?_); (try (refine gate_guard (by rfl) ?_; dsimp only)); refine Kd.R_lit (Kd.int .i64) _ 2 ?hg (N := 113) ?hd (xs := ([] : List Int)) (inner := []) (ok := fun _ => True) (okp := fun _ => True) ?hr ?hp (fun _ hk => hk) trivial (Below.refl _ _) (Nat.le_refl _) (by simp) ?_; (case hd => rfl); (case hg => rfl); (case hr => first | (go_simp; done) | (go_simp; rfl)); (case hp => exact (Reps.none _ _)); intro v885 w50 ho51 hb hg_ hnew_; clear hg_ hnew_; (first | rw [← Ny884.out] at ho51 | (simp only [Int.reduceToNat] at ho51; rw [← Ny884.out] at ho51)); have n0_ := Aside0.mk (Kd.R_elder' (by (with_reducible repeat first | apply k_A | apply k_N | apply k_D); exact HO_11.out) (Kd.R_base ho51) hb); have n1_ := Aside0.mk (Kd.R_elder' (by (with_reducible repeat first | apply k_A | apply k_N | apply k_D); exact HO_15.out) (Kd.R_base ho51) hb); have n2_ := Aside0.mk (Kd.R_elder' (by (with_reducible repeat first | apply k_A | apply k_N | apply k_D); exact HO_16.out) (Kd.R_base ho51) hb); have n3_ := Aside0.mk (Kd.R_elder' (by (with_reducible repeat first | apply k_A | apply k_N | apply k_D); exact HO_17.out) (Kd.R_base ho51) hb); have n4_ := Aside0.mk (Kd.R_elder' (by (with_reducible repeat first | apply k_A | apply k_N | apply k_D); exact HO883.out) (Kd.R_base ho51) hb); have n5_ := Aside0.mk (Kd.R_lower (Kd.R_new' (Kd.R_new' (Kd.R_new' (Kd.R_new' (Kd.R_new' ho51 (Kd.R_lt (by (with_reducible repeat first | apply k_A | apply k_N | apply k_D); exact HO_11.out))) (Kd.R_lt (by (with_reducible repeat first | apply k_A | apply k_N | apply k_D); exact HO_15.out))) (Kd.R_lt (by (with_reducible repeat first | apply k_A | apply k_N | apply k_D); exact HO_16.out))) (Kd.R_lt (by (with_reducible repeat first | apply k_A | apply k_N | apply k_D); exact HO_17.out))) (Kd.R_lt (by (with_reducible repeat first | apply k_A | apply k_N | apply k_D); exact HO883.out))) (below_size (by repeat (first | (with_reducible first | exact HB.out | apply below_alloc | apply pw_below_drewN | apply below_drew1) | exact HB.out)))); have n6_ := Aside0.mk (blk_below (g := g0) (o := .cells #[.slice A0_0 l0_0.length c0_0] 44 (0, 0)) (by (with_reducible repeat first | refine b_N ?_ _ | refine b_D ?_ | refine b_A ?_ _); exact BK0.out) hb); have n7_ := Aside0.mk (below_step (by repeat (first | (with_reducible first | exact HB.out | apply below_alloc | apply pw_below_drewN | apply below_drew1) | exact HB.out)) hb); clear HO_11; clear HO_15; clear HO_16; clear HO_17; clear HO883; clear BK0; clear HB; have HO_11 := n0_; have HO_15 := n1_; have HO_16 := n2_; have HO_17 := n3_; have HO883 := n4_; have HO886 := n5_; have BK0 := n6_; have HB := n7_; clear n0_ n1_ n2_ n3_ n4_ n5_ n6_ n7_; clear hb ho51)); try go_wp2_with (first | ((with_reducible refine gate_dst (N := 112) rfl ?_); (try (refine gate_guard (by rfl) ?_; dsimp only)); refine Kd.R_lit (Kd.int .i64) _ 2 ?hg (N := 112) ?hd (xs := ([] : List Int)) (inner := []) (ok := fun _ => True) (okp := fun _ => True) ?hr ?hp (fun _ hk => hk) trivial (Below.refl _ _) (Nat.le_refl _) (by simp) ?_; (case hd => rfl); (case hg => rfl); (case hr => first | (go_simp; done) | (go_simp; rfl)); (case hp => exact (Reps.none _ _)); intro v882 w48 ho49 hb hg_ hnew_; clear hg_ hnew_; (first | rw [← Ny881.out] at ho49 | (simp only [Int.reduceToNat] at ho49; rw [← Ny881.out] at ho49)); have n0_ := Aside0.mk (Kd.R_elder' (by (with_reducible repeat first | apply k_A | apply k_N | apply k_D); exact HO_11.out) (Kd.R_base ho49) hb); have n1_ := Aside0.mk (Kd.R_elder' (by (with_reducible repeat first | apply k_A | apply k_N | apply k_D); exact HO_15.out) (Kd.R_base ho49) hb); have n2_ := Aside0.mk (Kd.R_elder' (by (with_reducible repeat first | apply k_A | apply k_N | apply k_D); exact HO_16.out) (Kd.R_base ho49) hb); have n3_ := Aside0.mk (Kd.R_elder' (by (with_reducible repeat first | apply k_A | apply k_N | apply k_D); exact HO_17.out) (Kd.R_base ho49) hb); have n4_ := Aside0.mk (Kd.R_lower (Kd.R_new' (Kd.R_new' (Kd.R_new' (Kd.R_new' ho49 (Kd.R_lt (by (with_reducible repeat first | apply k_A | apply k_N | apply k_D); exact HO_11.out))) (Kd.R_lt (by (with_reducible repeat first | apply k_A | apply k_N | apply k_D); exact HO_15.out))) (Kd.R_lt (by (with_reducible repeat first | apply k_A | apply k_N | apply k_D); exact HO_16.out))) (Kd.R_lt (by (with_reducible repeat first | apply k_A | apply k_N | apply k_D); exact HO_17.out))) (below_size (by repeat (first | (with_reducible first | exact HB.out | apply below_alloc | apply pw_below_drewN | apply below_drew1) | exact HB.out)))); have n5_ := Aside0.mk (blk_below (g := g0) (o := .cells #[.slice A0_0 l0_0.length c0_0] 44 (0, 0)) (by (with_reducible repeat first | refine b_N ?_ _ | refine b_D ?_ | refine b_A ?_ _); exact BK0.out) hb); have n6_ := Aside0.mk (below_step (by repeat (first | (with_reducible first | exact HB.out | apply below_alloc | apply pw_below_drewN | apply below_drew1) | exact HB.out)) hb); clear HO_11; clear HO_15; clear HO_16; clear HO_17; clear BK0; clear HB; have HO_11 := n0_; have HO_15 := n1_; have HO_16 := n2_; have HO_17 := n3_; have HO883 := n4_; have BK0 := n5_; have HB := n6_; clear n0_ n1_ n2_ n3_ n4_ n5_ n6_; clear hb ho49) | ((with_reducible refine gate_dst (N := 113) rfl ?_); (try (refine gate_guard (by rfl) ?_; dsimp only)); refine Kd.R_lit (Kd.int .i64) _ 2 ?hg (N := 113) ?hd (xs := ([] : List Int)) (inner := []) (ok := fun _ => True) (okp := fun _ => True) ?hr ?hp (fun _ hk => hk) trivial (Below.refl _ _) (Nat.le_refl _) (by simp) ?_; (case hd => rfl); (case hg => rfl); (case hr => first | (go_simp; done) | (go_simp; rfl)); (case hp => exact (Reps.none _ _)); intro v885 w50 ho51 hb hg_ hnew_; clear hg_ hnew_; (first | rw [← Ny884.out] at ho51 | (simp only [Int.reduceToNat] at ho51; rw [← Ny884.out] at ho51)); have n0_ := Aside0.mk (Kd.R_elder' (by (with_reducible repeat first | apply k_A | apply k_N | apply k_D); exact HO_11.out) (Kd.R_base ho51) hb); have n1_ := Aside0.mk (Kd.R_elder' (by (with_reducible repeat first | apply k_A | apply k_N | apply k_D); exact HO_15.out) (Kd.R_base ho51) hb); have n2_ := Aside0.mk (Kd.R_elder' (by (with_reducible repeat first | apply k_A | apply k_N | apply k_D); exact HO_16.out) (Kd.R_base ho51) hb); have n3_ := Aside0.mk (Kd.R_elder' (by (with_reducible repeat first | apply k_A | apply k_N | apply k_D); exact HO_17.out) (Kd.R_base ho51) hb); have n4_ := Aside0.mk (Kd.R_elder' (by (with_reducible repeat first | apply k_A | apply k_N | apply k_D); exact HO883.out) (Kd.R_base ho51) hb); have n5_ := Aside0.mk (Kd.R_lower (Kd.R_new' (Kd.R_new' (Kd.R_new' (Kd.R_new' (Kd.R_new' ho51 (Kd.R_lt (by (with_reducible repeat first | apply k_A | apply k_N | apply k_D); exact HO_11.out))) (Kd.R_lt (by (with_reducible repeat first | apply k_A | apply k_N | apply k_D); exact HO_15.out))) (Kd.R_lt (by (with_reducible repeat first | apply k_A | apply k_N | apply k_D); exact HO_16.out))) (Kd.R_lt (by (with_reducible repeat first | apply k_A | apply k_N | apply k_D); exact HO_17.out))) (Kd.R_lt (by (with_reducible repeat first | apply k_A | apply k_N | apply k_D); exact HO883.out))) (below_size (by repeat (first | (with_reducible first | exact HB.out | apply below_alloc | apply pw_below_drewN | apply below_drew1) | exact HB.out)))); have n6_ := Aside0.mk (blk_below (g := g0) (o := .cells #[.slice A0_0 l0_0.length c0_0] 44 (0, 0)) (by (with_reducible repeat first | refine b_N ?_ _ | refine b_D ?_ | refine b_A ?_ _); exact BK0.out) hb); have n7_ := Aside0.mk (below_step (by repeat (first | (with_reducible first | exact HB.out | apply below_alloc | apply pw_below_drewN | apply below_drew1) | exact HB.out)) hb); clear HO_11; clear HO_15; clear HO_16; clear HO_17; clear HO883; clear BK0; clear HB; have HO_11 := n0_; have HO_15 := n1_; have HO_16 := n2_; have HO_17 := n3_; have HO883 := n4_; have HO886 := n5_; have BK0 := n6_; have HB := n7_; clear n0_ n1_ n2_ n3_ n4_ n5_ n6_ n7_; clear hb ho51)))
                go_loopg [21, 22, 24] kj33 (fun kq v21 v22 v24 w' => ∃ (x21_6 : List Int) (x22_6 : List Int) (x24_6 : Int), v24 = .int .i64 x24_6 ∧ Aside0 (spec_l10Follow.l3 kq a2 (l0_0.length : Int) t868 x12_1 x15_3 x16_3 x17_3 x18_3 x19_3 x20_3 x21_6 x22_6 (wrap64 ((wrap64 ((wrap64 ((Go.bits .or .i64 x18_3 (ji47)) * 9)) + x20_3)) * 9)) x24_6 l0_0 = some (r1, r2)) ∧ Aside0 (kq ≤ kj33) ∧ Aside0 (Kd.R (Kd.int .i64) 2 w' w.heap.size (fun k_ => some k_ ≠ (u15 : Value).ownBlock ∧ some k_ ≠ (u16 : Value).ownBlock ∧ some k_ ≠ (u17 : Value).ownBlock ∧ some k_ ≠ (v21 : Value).ownBlock ∧ some k_ ≠ (v22 : Value).ownBlock) v869 t868) ∧ Aside0 (Kd.R (Kd.int .i64) 2 w' w.heap.size (fun k_ => some k_ ≠ (v869 : Value).ownBlock ∧ some k_ ≠ (u16 : Value).ownBlock ∧ some k_ ≠ (u17 : Value).ownBlock ∧ some k_ ≠ (v21 : Value).ownBlock ∧ some k_ ≠ (v22 : Value).ownBlock) u15 x15_3) ∧ Aside0 (Kd.R (Kd.int .i64) 2 w' w.heap.size (fun k_ => some k_ ≠ (v869 : Value).ownBlock ∧ some k_ ≠ (u15 : Value).ownBlock ∧ some k_ ≠ (u17 : Value).ownBlock ∧ some k_ ≠ (v21 : Value).ownBlock ∧ some k_ ≠ (v22 : Value).ownBlock) u16 x16_3) ∧ Aside0 (Kd.R (Kd.int .i64) 2 w' w.heap.size (fun k_ => some k_ ≠ (v869 : Value).ownBlock ∧ some k_ ≠ (u15 : Value).ownBlock ∧ some k_ ≠ (u16 : Value).ownBlock ∧ some k_ ≠ (v21 : Value).ownBlock ∧ some k_ ≠ (v22 : Value).ownBlock) u17 x17_3) ∧ Aside0 (Kd.R (Kd.int .i64) 2 w' w.heap.size (fun k_ => some k_ ≠ (v869 : Value).ownBlock ∧ some k_ ≠ (u15 : Value).ownBlock ∧ some k_ ≠ (u16 : Value).ownBlock ∧ some k_ ≠ (u17 : Value).ownBlock ∧ some k_ ≠ (v22 : Value).ownBlock) v21 x21_6) ∧ Aside0 (Kd.R (Kd.int .i64) 2 w' w.heap.size (fun k_ => some k_ ≠ (v869 : Value).ownBlock ∧ some k_ ≠ (u15 : Value).ownBlock ∧ some k_ ≠ (u16 : Value).ownBlock ∧ some k_ ≠ (u17 : Value).ownBlock ∧ some k_ ≠ (v21 : Value).ownBlock) v22 x22_6) ∧ Aside0 (w'.heap[g0]? = some (.cells #[(.slice A0_0 l0_0.length c0_0)] 44 (0, 0))) ∧ Aside0 (Below w.heap.size w w'))
                case atStart => exact ⟨(y881), (y884), (0), (by first | rfl | (simp; done) | (simp [*]; done)), H', ⟨Nat.le_refl _⟩, ⟨by (with_reducible repeat (first | apply Kd.R_alloc | apply Kd.R_drewN | apply Kd.R_drew)); exact Kd.R_mono HO_11.out (fun _ hk => ⟨hk.1.1.1, ⟨hk.1.1.2.1, ⟨hk.1.1.2.2, ⟨hk.1.2, hk.2⟩⟩⟩⟩)⟩, ⟨by (with_reducible repeat (first | apply Kd.R_alloc | apply Kd.R_drewN | apply Kd.R_drew)); exact Kd.R_mono HO_15.out (fun _ hk => ⟨hk.1.1.1, ⟨hk.1.1.2.1, ⟨hk.1.1.2.2, ⟨hk.1.2, hk.2⟩⟩⟩⟩)⟩, ⟨by (with_reducible repeat (first | apply Kd.R_alloc | apply Kd.R_drewN | apply Kd.R_drew)); exact Kd.R_mono HO_16.out (fun _ hk => ⟨hk.1.1.1, ⟨hk.1.1.2.1, ⟨hk.1.1.2.2, ⟨hk.1.2, hk.2⟩⟩⟩⟩)⟩, ⟨by (with_reducible repeat (first | apply Kd.R_alloc | apply Kd.R_drewN | apply Kd.R_drew)); exact Kd.R_mono HO_17.out (fun _ hk => ⟨hk.1.1.1, ⟨hk.1.1.2.1, ⟨hk.1.1.2.2, ⟨hk.1.2, hk.2⟩⟩⟩⟩)⟩, ⟨by (with_reducible repeat (first | apply Kd.R_alloc | apply Kd.R_drewN | apply Kd.R_drew)); exact Kd.R_mono HO883.out (fun _ hk => ⟨hk.1.1.1.1.2, ⟨hk.1.1.1.2, ⟨hk.1.1.2, ⟨hk.1.2, hk.2⟩⟩⟩⟩)⟩, ⟨by (with_reducible repeat (first | apply Kd.R_alloc | apply Kd.R_drewN | apply Kd.R_drew)); exact Kd.R_mono HO886.out (fun _ hk => ⟨hk.1.1.1.1.2, ⟨hk.1.1.1.2, ⟨hk.1.1.2, ⟨hk.1.2, hk.2⟩⟩⟩⟩)⟩, ⟨by (with_reducible repeat first | refine b_N ?_ _ | refine b_D ?_ | refine b_A ?_ _); exact BK0.out⟩, ⟨by repeat (first | (with_reducible first | exact HB.out | apply below_alloc | apply pw_below_drewN | apply below_drew1) | exact HB.out)⟩⟩
                case round =>
                 as_aux_lemma =>
                 clear H'
                 try clear c1
                 try clear c2
                 try clear p2
                 try clear c3
                 try clear c4
                 try clear p6
                 try clear c8
                 try clear c8b0
                 try clear p8
                 try clear q8
                 try clear hx8
                 try clear c10
                 try clear c10b0
                 try clear c10b1
                 try clear c13
                 try clear c13b0
                 try clear c14
                 try clear c14b0
                 try clear c17
                 try clear c17b0
                 try clear c18
                 try clear c18b0
                 try clear c19
                 try clear c19b0
                 try clear c20
                 try clear c20b0
                 try clear c20b1
                 try clear c21
                 try clear c21b0
                 try clear c22
                 try clear c29
                 try clear c29b0
                 try clear c29b1
                 try clear c32
                 try clear c32b0
                 try clear c33
                 try clear c36
                 try clear c36b0
                 try clear c36b1
                 try clear c38
                 try clear c38b0
                 try clear c38b1
                 try clear c39
                 try clear c39b0
                 try clear c39b1
                 try clear c39b2
                 try clear c40
                 try clear c40b0
                 try clear c44
                 try clear c46
                 try clear c46b0
                 try clear c46b1
                 try clear hcz6_0
                 try clear hfz6_0
                 try clear hx871_0
                 try clear p2
                 try clear p6
                 try clear p8
                 try clear p871
                 try clear q8
                 try clear q871
                 obtain ⟨x21_6, x22_6, x24_6, rfl, HA, HK6, HO_11, HO_15, HO_16, HO_17, HO_21, HO_22, BK0, HB⟩ := hrel
                 cases gk with
                 | zero => exact absurd HA.out (by simp [spec_l10Follow.l3])
                 | succ k6 =>
                  have H := HA.out
                  clear HA
                  simp only [spec_l10Follow.l3] at H
                  by_cases c52 : x24_6 < (x16_3.length : Int)
                  ·rw [if_pos c52] at H
                   have c52b0 : decide (x24_6 < (x16_3.length : Int)) = true := decide_eq_true c52
                   clear c52
                   have H' := Aside0.mk H
                   clear H
                   obtain ⟨Ao53, co53, eo53⟩ := Kd.R_slice HO_16.out
                   subst eo53
                   go_wp2
                   repeat (go_quiet (fail); try go_wp2)
                   go_loopg [21, 22, 25] k6 (fun kq v21 v22 v25 w' => ∃ (x21_7 : List Int) (x22_7 : List Int) (x25_7 : Int), v25 = .int .i64 x25_7 ∧ Aside0 (spec_l10Follow.l4 kq a2 (l0_0.length : Int) t868 x12_1 x15_3 x16_3 x17_3 x18_3 x19_3 x20_3 x21_7 x22_7 (wrap64 ((wrap64 ((wrap64 ((Go.bits .or .i64 x18_3 (ji47)) * 9)) + x20_3)) * 9)) x24_6 x25_7 l0_0 = some (r1, r2)) ∧ Aside0 (kq ≤ k6) ∧ Aside0 (Kd.R (Kd.int .i64) 2 w' w.heap.size (fun k_ => some k_ ≠ (u15 : Value).ownBlock ∧ some k_ ≠ ((.slice Ao53 x16_3.length co53) : Value).ownBlock ∧ some k_ ≠ (u17 : Value).ownBlock ∧ some k_ ≠ (v21 : Value).ownBlock ∧ some k_ ≠ (v22 : Value).ownBlock) v869 t868) ∧ Aside0 (Kd.R (Kd.int .i64) 2 w' w.heap.size (fun k_ => some k_ ≠ (v869 : Value).ownBlock ∧ some k_ ≠ ((.slice Ao53 x16_3.length co53) : Value).ownBlock ∧ some k_ ≠ (u17 : Value).ownBlock ∧ some k_ ≠ (v21 : Value).ownBlock ∧ some k_ ≠ (v22 : Value).ownBlock) u15 x15_3) ∧ Aside0 (Kd.R (Kd.int .i64) 2 w' w.heap.size (fun k_ => some k_ ≠ (v869 : Value).ownBlock ∧ some k_ ≠ (u15 : Value).ownBlock ∧ some k_ ≠ (u17 : Value).ownBlock ∧ some k_ ≠ (v21 : Value).ownBlock ∧ some k_ ≠ (v22 : Value).ownBlock) (.slice Ao53 x16_3.length co53) x16_3) ∧ Aside0 (Kd.R (Kd.int .i64) 2 w' w.heap.size (fun k_ => some k_ ≠ (v869 : Value).ownBlock ∧ some k_ ≠ (u15 : Value).ownBlock ∧ some k_ ≠ ((.slice Ao53 x16_3.length co53) : Value).ownBlock ∧ some k_ ≠ (v21 : Value).ownBlock ∧ some k_ ≠ (v22 : Value).ownBlock) u17 x17_3) ∧ Aside0 (Kd.R (Kd.int .i64) 2 w' w.heap.size (fun k_ => some k_ ≠ (v869 : Value).ownBlock ∧ some k_ ≠ (u15 : Value).ownBlock ∧ some k_ ≠ ((.slice Ao53 x16_3.length co53) : Value).ownBlock ∧ some k_ ≠ (u17 : Value).ownBlock ∧ some k_ ≠ (v22 : Value).ownBlock) v21 x21_7) ∧ Aside0 (Kd.R (Kd.int .i64) 2 w' w.heap.size (fun k_ => some k_ ≠ (v869 : Value).ownBlock ∧ some k_ ≠ (u15 : Value).ownBlock ∧ some k_ ≠ ((.slice Ao53 x16_3.length co53) : Value).ownBlock ∧ some k_ ≠ (u17 : Value).ownBlock ∧ some k_ ≠ (v21 : Value).ownBlock) v22 x22_7) ∧ Aside0 (w'.heap[g0]? = some (.cells #[(.slice A0_0 l0_0.length c0_0)] 44 (0, 0))) ∧ Aside0 (Below w.heap.size w w'))
                   case atStart => exact ⟨(x21_6), (x22_6), (0), (by first | rfl | (simp; done) | (simp [*]; done)), H', ⟨Nat.le_refl _⟩, ⟨by (with_reducible repeat (first | apply Kd.R_alloc | apply Kd.R_drewN | apply Kd.R_drew)); exact HO_11.out⟩, ⟨by (with_reducible repeat (first | apply Kd.R_alloc | apply Kd.R_drewN | apply Kd.R_drew)); exact HO_15.out⟩, ⟨by (with_reducible repeat (first | apply Kd.R_alloc | apply Kd.R_drewN | apply Kd.R_drew)); exact HO_16.out⟩, ⟨by (with_reducible repeat (first | apply Kd.R_alloc | apply Kd.R_drewN | apply Kd.R_drew)); exact HO_17.out⟩, ⟨by (with_reducible repeat (first | apply Kd.R_alloc | apply Kd.R_drewN | apply Kd.R_drew)); exact HO_21.out⟩, ⟨by (with_reducible repeat (first | apply Kd.R_alloc | apply Kd.R_drewN | apply Kd.R_drew)); exact HO_22.out⟩, ⟨by (with_reducible repeat first | refine b_N ?_ _ | refine b_D ?_ | refine b_A ?_ _); exact BK0.out⟩, ⟨by repeat (first | (with_reducible first | exact HB.out | apply below_alloc | apply pw_below_drewN | apply below_drew1) | exact HB.out)⟩⟩
                   case round =>
                    as_aux_lemma =>
                    clear H'
                    try clear c1
                    try clear c2
                    try clear p2
                    try clear c3
                    try clear c4
                    try clear c5
                    try clear p6
                    try clear c8
                    try clear c8b0
                    try clear p8
                    try clear q8
                    try clear hx8
                    try clear c10
                    try clear c10b0
                    try clear c10b1
                    try clear c13
                    try clear c13b0
                    try clear c14
                    try clear c14b0
                    try clear c17
                    try clear c17b0
                    try clear c18
                    try clear c18b0
                    try clear c19
                    try clear c19b0
                    try clear c20
                    try clear c20b0
                    try clear c20b1
                    try clear c21
                    try clear c21b0
                    try clear c22
                    try clear c29
                    try clear c29b0
                    try clear c29b1
                    try clear c32
                    try clear c32b0
                    try clear c33
                    try clear c36
                    try clear c36b0
                    try clear c36b1
                    try clear c38
                    try clear c38b0
                    try clear c38b1
                    try clear c39
                    try clear c39b0
                    try clear c39b1
                    try clear c39b2
                    try clear c40
                    try clear c40b0
                    try clear c44
                    try clear c46
                    try clear c46b0
                    try clear c46b1
                    try clear c52
                    try clear c52b0
                    try clear hcz6_0
                    try clear hfz6_0
                    try clear hx871_0
                    try clear p2
                    try clear p6
                    try clear p8
                    try clear p871
                    try clear q8
                    try clear q871
                    obtain ⟨x21_7, x22_7, x25_7, rfl, HA, HK7, HO_11, HO_15, HO_16, HO_17, HO_21, HO_22, BK0, HB⟩ := hrel
                    cases gk with
                    | zero => exact absurd HA.out (by simp [spec_l10Follow.l4])
                    | succ k7 =>
                     have H := HA.out
                     clear HA
                     simp only [spec_l10Follow.l4] at H
                     by_cases c54 : 0 ≤ x24_6
                     ·rw [if_pos c54] at H
                      have c54b0 : decide (0 ≤ x24_6) = true := decide_eq_true c54
                      clear c54
                      by_cases c55 : x24_6 < (x16_3.length : Int)
                      ·rw [if_pos c55] at H
                       have c55b0 : decide (x24_6 < (x16_3.length : Int)) = true := decide_eq_true c55
                       clear c55
                       replace H := Option.bind_eq_some_iff.mp H
                       obtain ⟨t888, A560, H⟩ := H
                       replace H : (if x25_7 ≤ t888 then (if x24_6 < (x17_3.length : Int) then (if (x15_3.length : Int) = 0 then (if x25_7 = 1 then (spec_l10Follow.l4 k7 a2 (l0_0.length : Int) t868 x12_1 x15_3 x16_3 x17_3 x18_3 x19_3 x20_3 x21_7 x22_7 (wrap64 ((wrap64 ((wrap64 ((Go.bits .or .i64 x18_3 (ji47)) * 9)) + x20_3)) * 9)) x24_6 (wrap64 (x25_7 + 1)) l0_0) else (spec_l10Follow.j8 k7 a2 (l0_0.length : Int) t868 x12_1 x15_3 x16_3 x17_3 x18_3 x19_3 x20_3 x21_7 x22_7 (wrap64 ((wrap64 ((wrap64 ((Go.bits .or .i64 x18_3 (ji47)) * 9)) + x20_3)) * 9)) x24_6 x25_7 (rd x17_3 x24_6) l0_0)) else (if x25_7 = 0 then (if 0 ≤ (wrap64 ((x15_3.length : Int) - 1)) then (if (wrap64 ((x15_3.length : Int) - 1)) < (x15_3.length : Int) then (if 0 ≤ (rd x15_3 (wrap64 ((x15_3.length : Int) - 1))) then (if (rd x15_3 (wrap64 ((x15_3.length : Int) - 1))) < (l0_0.length : Int) then (if 0 ≤ x20_3 then (if x20_3 < ((rd_Ls2 l0_0 (rd x15_3 (wrap64 ((x15_3.length : Int) - 1)))).length : Int) then (spec_l10Follow.j8 k7 a2 (l0_0.length : Int) t868 x12_1 x15_3 x16_3 x17_3 x18_3 x19_3 x20_3 x21_7 x22_7 (wrap64 ((wrap64 ((wrap64 ((Go.bits .or .i64 x18_3 (ji47)) * 9)) + x20_3)) * 9)) x24_6 x25_7 (wrap64 ((rd x17_3 x24_6) - (rd (rd_Ls2 l0_0 (rd x15_3 (wrap64 ((x15_3.length : Int) - 1)))) x20_3))) l0_0) else (none)) else (none)) else (none)) else (none)) else (none)) else (none)) else (spec_l10Follow.j8 k7 a2 (l0_0.length : Int) t868 x12_1 x15_3 x16_3 x17_3 x18_3 x19_3 x20_3 x21_7 x22_7 (wrap64 ((wrap64 ((wrap64 ((Go.bits .or .i64 x18_3 (ji47)) * 9)) + x20_3)) * 9)) x24_6 x25_7 (rd x17_3 x24_6) l0_0))) else (none)) else (spec_l10Follow.l3 k7 a2 (l0_0.length : Int) t868 x12_1 x15_3 x16_3 x17_3 x18_3 x19_3 x20_3 x21_7 x22_7 (wrap64 ((wrap64 ((wrap64 ((Go.bits .or .i64 x18_3 (ji47)) * 9)) + x20_3)) * 9)) (wrap64 (x24_6 + 1)) l0_0)) = some (r1, r2) := H
                       have A56 := Aside0.mk A560
                       clear A560
                       by_cases c57 : x25_7 ≤ t888
                       ·rw [if_pos c57] at H
                        have c57b0 : decide (x25_7 ≤ t888) = true := decide_eq_true c57
                        clear c57
                        by_cases c58 : x24_6 < (x17_3.length : Int)
                        ·rw [if_pos c58] at H
                         have c58b0 : decide (x24_6 < (x17_3.length : Int)) = true := decide_eq_true c58
                         clear c58
                         have HC59 := Aside0.mk H
                         clear H
                         have p887 : 0 ≤ (x24_6 : Int) := of_decide_eq_true (by first | (with_reducible assumption) | assumption)
                         have q887 : x24_6 < (x16_3.length : Int) := of_decide_eq_true (by first | (with_reducible assumption) | assumption)
                         obtain ⟨ad887, e887, hx887_0⟩ := Kd.at_int (Kd.R_reads' HO_16.out).2.2 x24_6 p887 q887
                         cases e887
                         replace p887 := eq_true p887
                         replace q887 := eq_true q887
                         obtain ⟨Ao60, co60, eo60⟩ := Kd.R_slice HO_17.out
                         subst eo60
                         have p889 : 0 ≤ (x24_6 : Int) := of_decide_eq_true (by first | (with_reducible assumption) | assumption)
                         have q889 : x24_6 < (x17_3.length : Int) := of_decide_eq_true (by first | (with_reducible assumption) | assumption)
                         obtain ⟨ad889, e889, hx889_0⟩ := Kd.at_int (Kd.R_reads' HO_17.out).2.2 x24_6 p889 q889
                         cases e889
                         replace p889 := eq_true p889
                         replace q889 := eq_true q889
                         obtain ⟨Ao61, co61, eo61⟩ := Kd.R_slice HO_15.out
                         subst eo61
                         go_upto_if 144 with (first | (go_at_call 133; (with_reducible refine (spec_l00Min.calls 1 (rd x16_3 x24_6) t888 _ A56.out).mono ?_); rintro e w' ⟨rfl, ⟨nd, rfl⟩⟩; (try first | exact ⟨rfl, _, World.drewN_drewN _ _ _⟩ | exact ⟨rfl, _, Eq.trans (World.drewN_drewN _ _ _) (congrArg (World.drewN _) (Nat.add_assoc _ _ _))⟩)))
                         repeat (go_quiet (first | (go_at_call 133; (with_reducible refine (spec_l00Min.calls 1 (rd x16_3 x24_6) t888 _ A56.out).mono ?_); rintro e w' ⟨rfl, ⟨nd, rfl⟩⟩; (try first | exact ⟨rfl, _, World.drewN_drewN _ _ _⟩ | exact ⟨rfl, _, Eq.trans (World.drewN_drewN _ _ _) (congrArg (World.drewN _) (Nat.add_assoc _ _ _))⟩))); go_upto_if 144 with (first | (go_at_call 133; (with_reducible refine (spec_l00Min.calls 1 (rd x16_3 x24_6) t888 _ A56.out).mono ?_); rintro e w' ⟨rfl, ⟨nd, rfl⟩⟩; (try first | exact ⟨rfl, _, World.drewN_drewN _ _ _⟩ | exact ⟨rfl, _, Eq.trans (World.drewN_drewN _ _ _) (congrArg (World.drewN _) (Nat.add_assoc _ _ _))⟩))))
                         (try simp only [Act.put, List.setIfInBounds_toArray, List.set_cons_zero, List.set_cons_succ])
                         go_cut [26] (fun v26 wc => ∃ (kq : Nat) (x26_58 : Int), v26 = .int .i64 x26_58 ∧ Aside0 (spec_l10Follow.j8 kq a2 (l0_0.length : Int) t868 x12_1 x15_3 x16_3 x17_3 x18_3 x19_3 x20_3 x21_7 x22_7 (wrap64 ((wrap64 ((wrap64 ((Go.bits .or .i64 x18_3 (ji47)) * 9)) + x20_3)) * 9)) x24_6 x25_7 x26_58 l0_0 = some (r1, r2)) ∧ Aside0 (kq ≤ k7) ∧ Aside0 (Kd.R (Kd.int .i64) 2 wc w.heap.size (fun k_ => some k_ ≠ ((.slice Ao61 x15_3.length co61) : Value).ownBlock ∧ some k_ ≠ ((.slice (some ad887) x16_3.length co53) : Value).ownBlock ∧ some k_ ≠ ((.slice (some ad889) x17_3.length co60) : Value).ownBlock ∧ some k_ ≠ (u21 : Value).ownBlock ∧ some k_ ≠ (u22 : Value).ownBlock) v869 t868) ∧ Aside0 (Kd.R (Kd.int .i64) 2 wc w.heap.size (fun k_ => some k_ ≠ (v869 : Value).ownBlock ∧ some k_ ≠ ((.slice (some ad887) x16_3.length co53) : Value).ownBlock ∧ some k_ ≠ ((.slice (some ad889) x17_3.length co60) : Value).ownBlock ∧ some k_ ≠ (u21 : Value).ownBlock ∧ some k_ ≠ (u22 : Value).ownBlock) (.slice Ao61 x15_3.length co61) x15_3) ∧ Aside0 (Kd.R (Kd.int .i64) 2 wc w.heap.size (fun k_ => some k_ ≠ (v869 : Value).ownBlock ∧ some k_ ≠ ((.slice Ao61 x15_3.length co61) : Value).ownBlock ∧ some k_ ≠ ((.slice (some ad889) x17_3.length co60) : Value).ownBlock ∧ some k_ ≠ (u21 : Value).ownBlock ∧ some k_ ≠ (u22 : Value).ownBlock) (.slice (some ad887) x16_3.length co53) x16_3) ∧ Aside0 (Kd.R (Kd.int .i64) 2 wc w.heap.size (fun k_ => some k_ ≠ (v869 : Value).ownBlock ∧ some k_ ≠ ((.slice Ao61 x15_3.length co61) : Value).ownBlock ∧ some k_ ≠ ((.slice (some ad887) x16_3.length co53) : Value).ownBlock ∧ some k_ ≠ (u21 : Value).ownBlock ∧ some k_ ≠ (u22 : Value).ownBlock) (.slice (some ad889) x17_3.length co60) x17_3) ∧ Aside0 (Kd.R (Kd.int .i64) 2 wc w.heap.size (fun k_ => some k_ ≠ (v869 : Value).ownBlock ∧ some k_ ≠ ((.slice Ao61 x15_3.length co61) : Value).ownBlock ∧ some k_ ≠ ((.slice (some ad887) x16_3.length co53) : Value).ownBlock ∧ some k_ ≠ ((.slice (some ad889) x17_3.length co60) : Value).ownBlock ∧ some k_ ≠ (u22 : Value).ownBlock) u21 x21_7) ∧ Aside0 (Kd.R (Kd.int .i64) 2 wc w.heap.size (fun k_ => some k_ ≠ (v869 : Value).ownBlock ∧ some k_ ≠ ((.slice Ao61 x15_3.length co61) : Value).ownBlock ∧ some k_ ≠ ((.slice (some ad887) x16_3.length co53) : Value).ownBlock ∧ some k_ ≠ ((.slice (some ad889) x17_3.length co60) : Value).ownBlock ∧ some k_ ≠ (u21 : Value).ownBlock) u22 x22_7) ∧ Aside0 (wc.heap[g0]? = some (.cells #[(.slice A0_0 l0_0.length c0_0)] 44 (0, 0))) ∧ Aside0 (Below w.heap.size w wc))
                         case first =>
                          have H := HC59.out
                          clear HC59
                          by_cases c62 : (x15_3.length : Int) = 0
                          ·rw [if_pos c62] at H
                           have c62b0 : ((x15_3.length : Int) == 0) = true := beq_iff_eq.mpr c62
                           have c62b1 : ((x15_3.length : Int) != 0) = false := bne_eq_false_iff_eq.mpr c62
                           clear c62
                           (first | rw [c62b0] | (simp only [i64_w, i32_w]; rw [c62b0]) | skip)
                           by_cases c63 : x25_7 = 1
                           ·rw [if_pos c63] at H
                            have c63b0 : (x25_7 == 1) = true := beq_iff_eq.mpr c63
                            have c63b1 : (x25_7 != 1) = false := bne_eq_false_iff_eq.mpr c63
                            clear c63
                            have H' := Aside0.mk H
                            clear H
                            go_wp2
                            repeat (go_quiet (fail); try go_wp2)
                            go_roundg k7
                            case measure => have := HK1.out; have := HK2.out; have := HK3.out; have := HJ30.out; have := HJ33.out; have := HK6.out; have := HK7.out; omega
                            case rel => exact ⟨(x21_7), (x22_7), (wrap64 (x25_7 + 1)), (by first | rfl | (simp; done) | (simp [*]; done)), H', ⟨by have := HK1.out; have := HK2.out; have := HK3.out; have := HJ30.out; have := HJ33.out; have := HK6.out; have := HK7.out; omega⟩, ⟨by (with_reducible repeat (first | apply Kd.R_alloc | apply Kd.R_drewN | apply Kd.R_drew)); exact HO_11.out⟩, ⟨by (with_reducible repeat (first | apply Kd.R_alloc | apply Kd.R_drewN | apply Kd.R_drew)); exact HO_15.out⟩, ⟨by (with_reducible repeat (first | apply Kd.R_alloc | apply Kd.R_drewN | apply Kd.R_drew)); exact HO_16.out⟩, ⟨by (with_reducible repeat (first | apply Kd.R_alloc | apply Kd.R_drewN | apply Kd.R_drew)); exact HO_17.out⟩, ⟨by (with_reducible repeat (first | apply Kd.R_alloc | apply Kd.R_drewN | apply Kd.R_drew)); exact HO_21.out⟩, ⟨by (with_reducible repeat (first | apply Kd.R_alloc | apply Kd.R_drewN | apply Kd.R_drew)); exact HO_22.out⟩, ⟨by (with_reducible repeat first | refine b_N ?_ _ | refine b_D ?_ | refine b_A ?_ _); exact BK0.out⟩, ⟨by repeat (first | (with_reducible first | exact HB.out | apply below_alloc | apply pw_below_drewN | apply below_drew1) | exact HB.out)⟩⟩
                           ·rw [if_neg c63] at H
                            have c63b0 : (x25_7 == 1) = false := beq_eq_false_iff_ne.mpr c63
                            have c63b1 : (x25_7 != 1) = true := bne_iff_ne.mpr c63
                            have H' := Aside0.mk H
                            clear H
                            go_wp2
                            repeat (go_quiet (fail); try go_wp2)
                            go_meet
                            case rel => exact ⟨_, (rd x17_3 x24_6), (by first | rfl | (simp; done) | (simp [*]; done)), H', ⟨by have := HK1.out; have := HK2.out; have := HK3.out; have := HJ30.out; have := HJ33.out; have := HK6.out; have := HK7.out; first | omega | exact Nat.le_refl _⟩, ⟨by (with_reducible repeat (first | apply Kd.R_alloc | apply Kd.R_drewN | apply Kd.R_drew)); exact HO_11.out⟩, ⟨by (with_reducible repeat (first | apply Kd.R_alloc | apply Kd.R_drewN | apply Kd.R_drew)); exact HO_15.out⟩, ⟨by (with_reducible repeat (first | apply Kd.R_alloc | apply Kd.R_drewN | apply Kd.R_drew)); exact HO_16.out⟩, ⟨by (with_reducible repeat (first | apply Kd.R_alloc | apply Kd.R_drewN | apply Kd.R_drew)); exact HO_17.out⟩, ⟨by (with_reducible repeat (first | apply Kd.R_alloc | apply Kd.R_drewN | apply Kd.R_drew)); exact HO_21.out⟩, ⟨by (with_reducible repeat (first | apply Kd.R_alloc | apply Kd.R_drewN | apply Kd.R_drew)); exact HO_22.out⟩, ⟨by (with_reducible repeat first | refine b_N ?_ _ | refine b_D ?_ | refine b_A ?_ _); exact BK0.out⟩, ⟨by repeat (first | (with_reducible first | exact HB.out | apply below_alloc | apply pw_below_drewN | apply below_drew1) | exact HB.out)⟩⟩
                          ·rw [if_neg c62] at H
                           have c62b0 : ((x15_3.length : Int) == 0) = false := beq_eq_false_iff_ne.mpr c62
                           have c62b1 : ((x15_3.length : Int) != 0) = true := bne_iff_ne.mpr c62
                           have c62b2 : ¬ (x15_3 = []) := fun h_ => c62 (by rw [h_]; rfl)
                           (first | rw [c62b0] | (simp only [i64_w, i32_w]; rw [c62b0]) | skip)
                           by_cases c64 : x25_7 = 0
                           ·rw [if_pos c64] at H
                            have c64b0 : (x25_7 == 0) = true := beq_iff_eq.mpr c64
                            have c64b1 : (x25_7 != 0) = false := bne_eq_false_iff_eq.mpr c64
                            clear c64
                            obtain ⟨ji65, hji65⟩ : ∃ j_ : Int, (wrap64 ((x15_3.length : Int) - 1)) = j_ := ⟨_, rfl⟩
                            replace H : (if 0 ≤ (ji65) then (if (ji65) < (x15_3.length : Int) then (if 0 ≤ (rd x15_3 (ji65)) then (if (rd x15_3 (ji65)) < (l0_0.length : Int) then (if 0 ≤ x20_3 then (if x20_3 < ((rd_Ls2 l0_0 (rd x15_3 (ji65))).length : Int) then (spec_l10Follow.j8 k7 a2 (l0_0.length : Int) t868 x12_1 x15_3 x16_3 x17_3 x18_3 x19_3 x20_3 x21_7 x22_7 (wrap64 ((wrap64 ((wrap64 ((Go.bits .or .i64 x18_3 (ji47)) * 9)) + x20_3)) * 9)) x24_6 x25_7 (wrap64 ((rd x17_3 x24_6) - (rd (rd_Ls2 l0_0 (rd x15_3 (ji65))) x20_3))) l0_0) else (none)) else (none)) else (none)) else (none)) else (none)) else (none)) = some (r1, r2) := by first | (rw [hji65] at H; exact H) | (simp only [hji65] at H ⊢; exact H)
                            have hji65w : (IntKind.i64.wrap ((x15_3.length : Int) - 1)) = ji65 := (i64_w _).trans hji65
                            by_cases c66 : 0 ≤ (ji65)
                            ·rw [if_pos c66] at H
                             have c66b0 : decide (0 ≤ (ji65)) = true := decide_eq_true c66
                             clear c66
                             by_cases c67 : (ji65) < (x15_3.length : Int)
                             ·rw [if_pos c67] at H
                              have c67b0 : decide ((ji65) < (x15_3.length : Int)) = true := decide_eq_true c67
                              clear c67
                              by_cases c68 : 0 ≤ (rd x15_3 (ji65))
                              ·rw [if_pos c68] at H
                               have c68b0 : decide (0 ≤ (rd x15_3 (ji65))) = true := decide_eq_true c68
                               clear c68
                               by_cases c69 : (rd x15_3 (ji65)) < (l0_0.length : Int)
                               ·rw [if_pos c69] at H
                                have c69b0 : decide ((rd x15_3 (ji65)) < (l0_0.length : Int)) = true := decide_eq_true c69
                                clear c69
                                by_cases c70 : 0 ≤ x20_3
                                ·rw [if_pos c70] at H
                                 have c70b0 : decide (0 ≤ x20_3) = true := decide_eq_true c70
                                 clear c70
                                 by_cases c71 : x20_3 < ((rd_Ls2 l0_0 (rd x15_3 (ji65))).length : Int)
                                 ·rw [if_pos c71] at H
                                  have c71b0 : decide (x20_3 < ((rd_Ls2 l0_0 (rd x15_3 (ji65))).length : Int)) = true := decide_eq_true c71
                                  clear c71
                                  have H' := Aside0.mk H
                                  clear H
                                  have hcz72_0 : wr.cell? ⟨g0, 0, none⟩ = some (.slice A0_0 l0_0.length c0_0) := (blk_cell BK0.out 0).trans rfl
                                  have hfz72_0 := blk_frozen BK0.out 0
                                  have p890 : 0 ≤ ((ji65) : Int) := of_decide_eq_true (by first | (with_reducible assumption) | assumption)
                                  have q890 : (ji65) < (x15_3.length : Int) := of_decide_eq_true (by first | (with_reducible assumption) | assumption)
                                  obtain ⟨ad890, e890, hx890_0⟩ := Kd.at_int (Kd.R_reads' HO_15.out).2.2 (ji65) p890 q890
                                  cases e890
                                  replace p890 := eq_true p890
                                  replace q890 := eq_true q890
                                  have p891 : 0 ≤ ((rd x15_3 (ji65)) : Int) := of_decide_eq_true (by first | (with_reducible assumption) | assumption)
                                  have q891 : (rd x15_3 (ji65)) < (l0_0.length : Int) := of_decide_eq_true (by first | (with_reducible assumption) | assumption)
                                  obtain ⟨ad891, A891_0, c891_0, e891, hx891_0, hl891_0, hi891_0⟩ := at_Ls2 HR0_0.out (rd x15_3 (ji65)) p891 q891
                                  cases e891
                                  replace hx891_0 := (HB.out.cell (World.block_lt_of_cell? w _ hx891_0)).trans hx891_0
                                  have HR891_0 := Aside0.mk hi891_0
                                  have HC891_0 := Aside0.mk hl891_0
                                  clear hi891_0 hl891_0
                                  replace p891 := eq_true p891
                                  replace q891 := eq_true q891
                                  have p892 : 0 ≤ (x20_3 : Int) := of_decide_eq_true (by first | (with_reducible assumption) | assumption)
                                  have q892 : x20_3 < ((rd_Ls2 l0_0 (rd x15_3 (ji65))).length : Int) := of_decide_eq_true (by first | (with_reducible assumption) | assumption)
                                  obtain ⟨ad892, e892, hx892_0⟩ := Kd.at_int HR891_0.out x20_3 p892 q892
                                  cases e892
                                  replace hx892_0 := (HB.out.cell (World.block_lt_of_cell? w _ hx892_0)).trans hx892_0
                                  replace p892 := eq_true p892
                                  replace q892 := eq_true q892
                                  go_wp2
                                  repeat (go_quiet (fail); try go_wp2)
                                  go_meet
                                  case rel => exact ⟨_, (wrap64 ((rd x17_3 x24_6) - (rd (rd_Ls2 l0_0 (rd x15_3 (ji65))) x20_3))), (by first | rfl | (simp; done) | (simp only [← hji65] <;> (first | rfl | simp)) | (simp [*]; done)), H', ⟨by have := HK1.out; have := HK2.out; have := HK3.out; have := HJ30.out; have := HJ33.out; have := HK6.out; have := HK7.out; first | omega | exact Nat.le_refl _⟩, ⟨by (with_reducible repeat (first | apply Kd.R_alloc | apply Kd.R_drewN | apply Kd.R_drew)); exact HO_11.out⟩, ⟨by (with_reducible repeat (first | apply Kd.R_alloc | apply Kd.R_drewN | apply Kd.R_drew)); exact HO_15.out⟩, ⟨by (with_reducible repeat (first | apply Kd.R_alloc | apply Kd.R_drewN | apply Kd.R_drew)); exact HO_16.out⟩, ⟨by (with_reducible repeat (first | apply Kd.R_alloc | apply Kd.R_drewN | apply Kd.R_drew)); exact HO_17.out⟩, ⟨by (with_reducible repeat (first | apply Kd.R_alloc | apply Kd.R_drewN | apply Kd.R_drew)); exact HO_21.out⟩, ⟨by (with_reducible repeat (first | apply Kd.R_alloc | apply Kd.R_drewN | apply Kd.R_drew)); exact HO_22.out⟩, ⟨by (with_reducible repeat first | refine b_N ?_ _ | refine b_D ?_ | refine b_A ?_ _); exact BK0.out⟩, ⟨by repeat (first | (with_reducible first | exact HB.out | apply below_alloc | apply pw_below_drewN | apply below_drew1) | exact HB.out)⟩⟩
                                 ·rw [if_neg c71] at H
                                  exact absurd H (by simp)
                                ·rw [if_neg c70] at H
                                 exact absurd H (by simp)
                               ·rw [if_neg c69] at H
                                exact absurd H (by simp)
                              ·rw [if_neg c68] at H
                               exact absurd H (by simp)
                             ·rw [if_neg c67] at H
                              exact absurd H (by simp)
                            ·rw [if_neg c66] at H
                             exact absurd H (by simp)
                           ·rw [if_neg c64] at H
                            have c64b0 : (x25_7 == 0) = false := beq_eq_false_iff_ne.mpr c64
                            have c64b1 : (x25_7 != 0) = true := bne_iff_ne.mpr c64
                            have H' := Aside0.mk H
                            clear H
                            go_wp2
                            repeat (go_quiet (fail); try go_wp2)
                            go_meet
                            case rel => exact ⟨_, (rd x17_3 x24_6), (by first | rfl | (simp; done) | (simp [*]; done)), H', ⟨by have := HK1.out; have := HK2.out; have := HK3.out; have := HJ30.out; have := HJ33.out; have := HK6.out; have := HK7.out; first | omega | exact Nat.le_refl _⟩, ⟨by (with_reducible repeat (first | apply Kd.R_alloc | apply Kd.R_drewN | apply Kd.R_drew)); exact HO_11.out⟩, ⟨by (with_reducible repeat (first | apply Kd.R_alloc | apply Kd.R_drewN | apply Kd.R_drew)); exact HO_15.out⟩, ⟨by (with_reducible repeat (first | apply Kd.R_alloc | apply Kd.R_drewN | apply Kd.R_drew)); exact HO_16.out⟩, ⟨by (with_reducible repeat (first | apply Kd.R_alloc | apply Kd.R_drewN | apply Kd.R_drew)); exact HO_17.out⟩, ⟨by (with_reducible repeat (first | apply Kd.R_alloc | apply Kd.R_drewN | apply Kd.R_drew)); exact HO_21.out⟩, ⟨by (with_reducible repeat (first | apply Kd.R_alloc | apply Kd.R_drewN | apply Kd.R_drew)); exact HO_22.out⟩, ⟨by (with_reducible repeat first | refine b_N ?_ _ | refine b_D ?_ | refine b_A ?_ _); exact BK0.out⟩, ⟨by repeat (first | (with_reducible first | exact HB.out | apply below_alloc | apply pw_below_drewN | apply below_drew1) | exact HB.out)⟩⟩
                         case rest =>
                          clear HC59
                          try clear c1
                          try clear c2
                          try clear p2
                          try clear c3
                          try clear c4
                          try clear c5
                          try clear c6
                          try clear p6
                          try clear c7
                          try clear c8
                          try clear c8b0
                          try clear p8
                          try clear q8
                          try clear hx8
                          try clear c10
                          try clear c10b0
                          try clear c10b1
                          try clear c13
                          try clear c13b0
                          try clear c14
                          try clear c14b0
                          try clear c17
                          try clear c17b0
                          try clear c18
                          try clear c18b0
                          try clear c19
                          try clear c19b0
                          try clear c20
                          try clear c20b0
                          try clear c20b1
                          try clear c21
                          try clear c21b0
                          try clear c22
                          try clear c29
                          try clear c29b0
                          try clear c29b1
                          try clear c32
                          try clear c32b0
                          try clear c33
                          try clear c36
                          try clear c36b0
                          try clear c36b1
                          try clear c38
                          try clear c38b0
                          try clear c38b1
                          try clear c39
                          try clear c39b0
                          try clear c39b1
                          try clear c39b2
                          try clear c40
                          try clear c40b0
                          try clear c44
                          try clear c46
                          try clear c46b0
                          try clear c46b1
                          try clear c52
                          try clear c52b0
                          try clear c54
                          try clear c54b0
                          try clear c55
                          try clear c55b0
                          try clear c57
                          try clear c57b0
                          try clear c58
                          try clear c58b0
                          try clear c62
                          try clear c62b0
                          try clear c62b1
                          try clear c62b2
                          try clear c63
                          try clear c63b0
                          try clear c63b1
                          try clear c64
                          try clear c64b0
                          try clear c64b1
                          try clear p64
                          try clear c66
                          try clear c66b0
                          try clear c67
                          try clear c67b0
                          try clear c68
                          try clear c68b0
                          try clear c69
                          try clear c69b0
                          try clear c70
                          try clear c70b0
                          try clear c71
                          try clear c71b0
                          try clear hcz6_0
                          try clear hcz72_0
                          try clear hfz6_0
                          try clear hfz72_0
                          try clear hx871_0
                          try clear hx887_0
                          try clear hx889_0
                          try clear hx890_0
                          try clear hx891_0
                          try clear hx892_0
                          try clear p2
                          try clear p6
                          try clear p8
                          try clear p871
                          try clear p887
                          try clear p889
                          try clear p890
                          try clear p891
                          try clear p892
                          try clear q8
                          try clear q871
                          try clear q887
                          try clear q889
                          try clear q890
                          try clear q891
                          try clear q892
                          obtain ⟨kq, x26_58, rfl, HA, HJ58, HO_11, HO_15, HO_16, HO_17, HO_21, HO_22, BK0, HB⟩ := hcut
                          cases kq with
                          | zero => exact absurd HA.out (by simp [spec_l10Follow.j8])
                          | succ kj58 =>
                           have H := HA.out
                           clear HA
                           simp only [spec_l10Follow.j8] at H
                           have HC73 := Aside0.mk H
                           clear H
                           go_upto_region 34 with (fail)
                           repeat (go_quiet (fail); go_upto_region 34 with (fail))
                           go_cut [192] (fun v192 wc => ∃ (kq : Nat) (x192_72 : Bool), v192 = .bool x192_72 ∧ Aside0 (spec_l10Follow.j9 kq a2 (l0_0.length : Int) t868 x12_1 x15_3 x16_3 x17_3 x18_3 x19_3 x20_3 x21_7 x22_7 (wrap64 ((wrap64 ((wrap64 ((Go.bits .or .i64 x18_3 (ji47)) * 9)) + x20_3)) * 9)) x24_6 x25_7 x26_58 x192_72 l0_0 = some (r1, r2)) ∧ Aside0 (kq ≤ kj58) ∧ Aside0 (Kd.R (Kd.int .i64) 2 wc w.heap.size (fun k_ => some k_ ≠ ((.slice Ao61 x15_3.length co61) : Value).ownBlock ∧ some k_ ≠ ((.slice (some ad887) x16_3.length co53) : Value).ownBlock ∧ some k_ ≠ ((.slice (some ad889) x17_3.length co60) : Value).ownBlock ∧ some k_ ≠ (u21 : Value).ownBlock ∧ some k_ ≠ (u22 : Value).ownBlock) v869 t868) ∧ Aside0 (Kd.R (Kd.int .i64) 2 wc w.heap.size (fun k_ => some k_ ≠ (v869 : Value).ownBlock ∧ some k_ ≠ ((.slice (some ad887) x16_3.length co53) : Value).ownBlock ∧ some k_ ≠ ((.slice (some ad889) x17_3.length co60) : Value).ownBlock ∧ some k_ ≠ (u21 : Value).ownBlock ∧ some k_ ≠ (u22 : Value).ownBlock) (.slice Ao61 x15_3.length co61) x15_3) ∧ Aside0 (Kd.R (Kd.int .i64) 2 wc w.heap.size (fun k_ => some k_ ≠ (v869 : Value).ownBlock ∧ some k_ ≠ ((.slice Ao61 x15_3.length co61) : Value).ownBlock ∧ some k_ ≠ ((.slice (some ad889) x17_3.length co60) : Value).ownBlock ∧ some k_ ≠ (u21 : Value).ownBlock ∧ some k_ ≠ (u22 : Value).ownBlock) (.slice (some ad887) x16_3.length co53) x16_3) ∧ Aside0 (Kd.R (Kd.int .i64) 2 wc w.heap.size (fun k_ => some k_ ≠ (v869 : Value).ownBlock ∧ some k_ ≠ ((.slice Ao61 x15_3.length co61) : Value).ownBlock ∧ some k_ ≠ ((.slice (some ad887) x16_3.length co53) : Value).ownBlock ∧ some k_ ≠ (u21 : Value).ownBlock ∧ some k_ ≠ (u22 : Value).ownBlock) (.slice (some ad889) x17_3.length co60) x17_3) ∧ Aside0 (Kd.R (Kd.int .i64) 2 wc w.heap.size (fun k_ => some k_ ≠ (v869 : Value).ownBlock ∧ some k_ ≠ ((.slice Ao61 x15_3.length co61) : Value).ownBlock ∧ some k_ ≠ ((.slice (some ad887) x16_3.length co53) : Value).ownBlock ∧ some k_ ≠ ((.slice (some ad889) x17_3.length co60) : Value).ownBlock ∧ some k_ ≠ (u22 : Value).ownBlock) u21 x21_7) ∧ Aside0 (Kd.R (Kd.int .i64) 2 wc w.heap.size (fun k_ => some k_ ≠ (v869 : Value).ownBlock ∧ some k_ ≠ ((.slice Ao61 x15_3.length co61) : Value).ownBlock ∧ some k_ ≠ ((.slice (some ad887) x16_3.length co53) : Value).ownBlock ∧ some k_ ≠ ((.slice (some ad889) x17_3.length co60) : Value).ownBlock ∧ some k_ ≠ (u21 : Value).ownBlock) u22 x22_7) ∧ Aside0 (wc.heap[g0]? = some (.cells #[(.slice A0_0 l0_0.length c0_0)] 44 (0, 0))) ∧ Aside0 (Below w.heap.size w wc))
                           case first =>
                            have H := HC73.out
                            clear HC73
                            by_cases c74 : x26_58 < 0
                            ·rw [if_pos c74] at H
                             have c74b0 : decide (x26_58 < 0) = true := decide_eq_true c74
                             clear c74
                             (first | rw [c74b0] | (simp only [i64_w, i32_w]; rw [c74b0]) | skip)
                             have H' := Aside0.mk H
                             clear H
                             go_wp2
                             repeat (go_quiet (fail); try go_wp2)
                             go_meet
                             case rel => exact ⟨_, (true), (by first | rfl | (simp; done) | (simp [*]; done)), H', ⟨by have := HK1.out; have := HK2.out; have := HK3.out; have := HJ30.out; have := HJ33.out; have := HK6.out; have := HK7.out; have := HJ58.out; first | omega | exact Nat.le_refl _⟩, ⟨by (with_reducible repeat (first | apply Kd.R_alloc | apply Kd.R_drewN | apply Kd.R_drew)); exact HO_11.out⟩, ⟨by (with_reducible repeat (first | apply Kd.R_alloc | apply Kd.R_drewN | apply Kd.R_drew)); exact HO_15.out⟩, ⟨by (with_reducible repeat (first | apply Kd.R_alloc | apply Kd.R_drewN | apply Kd.R_drew)); exact HO_16.out⟩, ⟨by (with_reducible repeat (first | apply Kd.R_alloc | apply Kd.R_drewN | apply Kd.R_drew)); exact HO_17.out⟩, ⟨by (with_reducible repeat (first | apply Kd.R_alloc | apply Kd.R_drewN | apply Kd.R_drew)); exact HO_21.out⟩, ⟨by (with_reducible repeat (first | apply Kd.R_alloc | apply Kd.R_drewN | apply Kd.R_drew)); exact HO_22.out⟩, ⟨by (with_reducible repeat first | refine b_N ?_ _ | refine b_D ?_ | refine b_A ?_ _); exact BK0.out⟩, ⟨by repeat (first | (with_reducible first | exact HB.out | apply below_alloc | apply pw_below_drewN | apply below_drew1) | exact HB.out)⟩⟩
                            ·rw [if_neg c74] at H
                             have c74b0 : decide (x26_58 < 0) = false := decide_eq_false c74
                             clear c74
                             (first | rw [c74b0] | (simp only [i64_w, i32_w]; rw [c74b0]) | skip)
                             by_cases c75 : 0 ≤ x24_6
                             ·rw [if_pos c75] at H
                              have c75b0 : decide (0 ≤ x24_6) = true := decide_eq_true c75
                              clear c75
                              by_cases c76 : x24_6 < (x16_3.length : Int)
                              ·rw [if_pos c76] at H
                               have c76b0 : decide (x24_6 < (x16_3.length : Int)) = true := decide_eq_true c76
                               clear c76
                               obtain ⟨ji77, hji77⟩ : ∃ j_ : Int, (wrap64 ((wrap64 ((wrap64 ((wrap64 ((wrap64 ((Go.bits .or .i64 x18_3 (ji47)) * 9)) + x20_3)) * 9)) + (rd x16_3 x24_6))) - x25_7)) = j_ := ⟨_, rfl⟩
                               replace H : (if 0 ≤ (ji77) then (if (ji77) < (t868.length : Int) then (if (rd t868 (ji77)) = x26_58 then ((spec_l00Has.f kj58 x21_7 (wrap64 ((rd x16_3 x24_6) - x25_7))).bind fun t896 => (spec_l10Follow.j9 kj58 a2 (l0_0.length : Int) t868 x12_1 x15_3 x16_3 x17_3 x18_3 x19_3 x20_3 x21_7 x22_7 (wrap64 ((wrap64 ((wrap64 ((Go.bits .or .i64 x18_3 (ji47)) * 9)) + x20_3)) * 9)) x24_6 x25_7 x26_58 t896 l0_0)) else (spec_l10Follow.j9 kj58 a2 (l0_0.length : Int) t868 x12_1 x15_3 x16_3 x17_3 x18_3 x19_3 x20_3 x21_7 x22_7 (wrap64 ((wrap64 ((wrap64 ((Go.bits .or .i64 x18_3 (ji47)) * 9)) + x20_3)) * 9)) x24_6 x25_7 x26_58 true l0_0)) else (none)) else (none)) = some (r1, r2) := by first | (rw [hji77] at H; exact H) | (simp only [hji77] at H ⊢; exact H)
                               have hji77w : (IntKind.i64.wrap ((wrap64 ((wrap64 ((wrap64 ((wrap64 ((Go.bits .or .i64 x18_3 (ji47)) * 9)) + x20_3)) * 9)) + (rd x16_3 x24_6))) - x25_7)) = ji77 := (i64_w _).trans hji77
                               by_cases c78 : 0 ≤ (ji77)
                               ·rw [if_pos c78] at H
                                have c78b0 : decide (0 ≤ (ji77)) = true := decide_eq_true c78
                                clear c78
                                by_cases c79 : (ji77) < (t868.length : Int)
                                ·rw [if_pos c79] at H
                                 have c79b0 : decide ((ji77) < (t868.length : Int)) = true := decide_eq_true c79
                                 clear c79
                                 by_cases c80 : (rd t868 (ji77)) = x26_58
                                 ·rw [if_pos c80] at H
                                  have c80b0 : ((rd t868 (ji77)) == x26_58) = true := beq_iff_eq.mpr c80
                                  have c80b1 : ((rd t868 (ji77)) != x26_58) = false := bne_eq_false_iff_eq.mpr c80
                                  clear c80
                                  replace H := Option.bind_eq_some_iff.mp H
                                  obtain ⟨t896, A810, H⟩ := H
                                  replace H : (spec_l10Follow.j9 kj58 a2 (l0_0.length : Int) t868 x12_1 x15_3 x16_3 x17_3 x18_3 x19_3 x20_3 x21_7 x22_7 (wrap64 ((wrap64 ((wrap64 ((Go.bits .or .i64 x18_3 (ji47)) * 9)) + x20_3)) * 9)) x24_6 x25_7 x26_58 t896 l0_0) = some (r1, r2) := H
                                  have A81 := Aside0.mk A810
                                  clear A810
                                  have H' := Aside0.mk H
                                  clear H
                                  have p893 : 0 ≤ (x24_6 : Int) := of_decide_eq_true (by first | (with_reducible assumption) | assumption)
                                  have q893 : x24_6 < (x16_3.length : Int) := of_decide_eq_true (by first | (with_reducible assumption) | assumption)
                                  obtain ⟨ad893, e893, hx893_0⟩ := Kd.at_int (Kd.R_reads' HO_16.out).2.2 x24_6 p893 q893
                                  obtain rfl : ad887 = ad893 := (by injection e893)
                                  replace p893 := eq_true p893
                                  replace q893 := eq_true q893
                                  obtain ⟨Ao82, co82, eo82⟩ := Kd.R_slice HO_11.out
                                  subst eo82
                                  have p894 : 0 ≤ ((ji77) : Int) := of_decide_eq_true (by first | (with_reducible assumption) | assumption)
                                  have q894 : (ji77) < (t868.length : Int) := of_decide_eq_true (by first | (with_reducible assumption) | assumption)
                                  obtain ⟨ad894, e894, hx894_0⟩ := Kd.at_int (Kd.R_reads' HO_11.out).2.2 (ji77) p894 q894
                                  cases e894
                                  replace p894 := eq_true p894
                                  replace q894 := eq_true q894
                                  have p895 : 0 ≤ (x24_6 : Int) := of_decide_eq_true (by first | (with_reducible assumption) | assumption)
                                  have q895 : x24_6 < (x16_3.length : Int) := of_decide_eq_true (by first | (with_reducible assumption) | assumption)
                                  obtain ⟨ad895, e895, hx895_0⟩ := Kd.at_int (Kd.R_reads' HO_16.out).2.2 x24_6 p895 q895
                                  obtain rfl : ad887 = ad895 := (by injection e895)
                                  replace p895 := eq_true p895
                                  replace q895 := eq_true q895
                                  obtain ⟨Ao83, co83, eo83⟩ := Kd.R_slice HO_21.out
                                  subst eo83
                                  go_wp2_with (first | (go_at_call 75; (with_reducible refine (spec_l00Has.calls kj58 _ _ x21_7 (wrap64 ((rd x16_3 x24_6) - x25_7)) t896 _ ?side1 ?side2 A81.out).mono ?_); (case side1 => repeat (first | exact (Kd.R_reads' HO_21.out).2.2 | (with_reducible refine Kd.C_alloc ?_ _) | (with_reducible refine Kd.C_drewN ?_ _) | (with_reducible refine Kd.C_drew ?_))); (case side2 => exact (Kd.R_reads' HO_21.out).2.1); rintro e w' ⟨rfl, ⟨nd, rfl⟩⟩; (try first | exact ⟨rfl, _, World.drewN_drewN _ _ _⟩ | exact ⟨rfl, _, Eq.trans (World.drewN_drewN _ _ _) (congrArg (World.drewN _) (Nat.add_assoc _ _ _))⟩)))
                                  repeat (go_quiet (first | (go_at_call 75; (with_reducible refine (spec_l00Has.calls kj58 _ _ x21_7 (wrap64 ((rd x16_3 x24_6) - x25_7)) t896 _ ?side1 ?side2 A81.out).mono ?_); (case side1 => repeat (first | exact (Kd.R_reads' HO_21.out).2.2 | (with_reducible refine Kd.C_alloc ?_ _) | (with_reducible refine Kd.C_drewN ?_ _) | (with_reducible refine Kd.C_drew ?_))); (case side2 => exact (Kd.R_reads' HO_21.out).2.1); rintro e w' ⟨rfl, ⟨nd, rfl⟩⟩; (try first | exact ⟨rfl, _, World.drewN_drewN _ _ _⟩ | exact ⟨rfl, _, Eq.trans (World.drewN_drewN _ _ _) (congrArg (World.drewN _) (Nat.add_assoc _ _ _))⟩))); try go_wp2_with (first | (go_at_call 75; (with_reducible refine (spec_l00Has.calls kj58 _ _ x21_7 (wrap64 ((rd x16_3 x24_6) - x25_7)) t896 _ ?side1 ?side2 A81.out).mono ?_); (case side1 => repeat (first | exact (Kd.R_reads' HO_21.out).2.2 | (with_reducible refine Kd.C_alloc ?_ _) | (with_reducible refine Kd.C_drewN ?_ _) | (with_reducible refine Kd.C_drew ?_))); (case side2 => exact (Kd.R_reads' HO_21.out).2.1); rintro e w' ⟨rfl, ⟨nd, rfl⟩⟩; (try first | exact ⟨rfl, _, World.drewN_drewN _ _ _⟩ | exact ⟨rfl, _, Eq.trans (World.drewN_drewN _ _ _) (congrArg (World.drewN _) (Nat.add_assoc _ _ _))⟩))))
                                  go_meet
                                  case rel => exact ⟨_, (t896), (by first | rfl | (simp; done) | (simp [*]; done)), H', ⟨by have := HK1.out; have := HK2.out; have := HK3.out; have := HJ30.out; have := HJ33.out; have := HK6.out; have := HK7.out; have := HJ58.out; first | omega | exact Nat.le_refl _⟩, ⟨by (with_reducible repeat (first | apply Kd.R_alloc | apply Kd.R_drewN | apply Kd.R_drew)); exact HO_11.out⟩, ⟨by (with_reducible repeat (first | apply Kd.R_alloc | apply Kd.R_drewN | apply Kd.R_drew)); exact HO_15.out⟩, ⟨by (with_reducible repeat (first | apply Kd.R_alloc | apply Kd.R_drewN | apply Kd.R_drew)); exact HO_16.out⟩, ⟨by (with_reducible repeat (first | apply Kd.R_alloc | apply Kd.R_drewN | apply Kd.R_drew)); exact HO_17.out⟩, ⟨by (with_reducible repeat (first | apply Kd.R_alloc | apply Kd.R_drewN | apply Kd.R_drew)); exact HO_21.out⟩, ⟨by (with_reducible repeat (first | apply Kd.R_alloc | apply Kd.R_drewN | apply Kd.R_drew)); exact HO_22.out⟩, ⟨by (with_reducible repeat first | refine b_N ?_ _ | refine b_D ?_ | refine b_A ?_ _); exact BK0.out⟩, ⟨by repeat (first | (with_reducible first | exact HB.out | apply below_alloc | apply pw_below_drewN | apply below_drew1) | exact HB.out)⟩⟩
                                 ·rw [if_neg c80] at H
                                  have c80b0 : ((rd t868 (ji77)) == x26_58) = false := beq_eq_false_iff_ne.mpr c80
                                  have c80b1 : ((rd t868 (ji77)) != x26_58) = true := bne_iff_ne.mpr c80
                                  have H' := Aside0.mk H
                                  clear H
                                  have p893 : 0 ≤ (x24_6 : Int) := of_decide_eq_true (by first | (with_reducible assumption) | assumption)
                                  have q893 : x24_6 < (x16_3.length : Int) := of_decide_eq_true (by first | (with_reducible assumption) | assumption)
                                  obtain ⟨ad893, e893, hx893_0⟩ := Kd.at_int (Kd.R_reads' HO_16.out).2.2 x24_6 p893 q893
                                  obtain rfl : ad887 = ad893 := (by injection e893)
                                  replace p893 := eq_true p893
                                  replace q893 := eq_true q893
                                  obtain ⟨Ao84, co84, eo84⟩ := Kd.R_slice HO_11.out
                                  subst eo84
                                  have p894 : 0 ≤ ((ji77) : Int) := of_decide_eq_true (by first | (with_reducible assumption) | assumption)
                                  have q894 : (ji77) < (t868.length : Int) := of_decide_eq_true (by first | (with_reducible assumption) | assumption)
                                  obtain ⟨ad894, e894, hx894_0⟩ := Kd.at_int (Kd.R_reads' HO_11.out).2.2 (ji77) p894 q894
                                  cases e894
                                  replace p894 := eq_true p894
                                  replace q894 := eq_true q894
                                  go_wp2
                                  repeat (go_quiet (fail); try go_wp2)
                                  go_meet
                                  case rel => exact ⟨_, (true), (by first | rfl | (simp; done) | (simp [*]; done)), H', ⟨by have := HK1.out; have := HK2.out; have := HK3.out; have := HJ30.out; have := HJ33.out; have := HK6.out; have := HK7.out; have := HJ58.out; first | omega | exact Nat.le_refl _⟩, ⟨by (with_reducible repeat (first | apply Kd.R_alloc | apply Kd.R_drewN | apply Kd.R_drew)); exact HO_11.out⟩, ⟨by (with_reducible repeat (first | apply Kd.R_alloc | apply Kd.R_drewN | apply Kd.R_drew)); exact HO_15.out⟩, ⟨by (with_reducible repeat (first | apply Kd.R_alloc | apply Kd.R_drewN | apply Kd.R_drew)); exact HO_16.out⟩, ⟨by (with_reducible repeat (first | apply Kd.R_alloc | apply Kd.R_drewN | apply Kd.R_drew)); exact HO_17.out⟩, ⟨by (with_reducible repeat (first | apply Kd.R_alloc | apply Kd.R_drewN | apply Kd.R_drew)); exact HO_21.out⟩, ⟨by (with_reducible repeat (first | apply Kd.R_alloc | apply Kd.R_drewN | apply Kd.R_drew)); exact HO_22.out⟩, ⟨by (with_reducible repeat first | refine b_N ?_ _ | refine b_D ?_ | refine b_A ?_ _); exact BK0.out⟩, ⟨by repeat (first | (with_reducible first | exact HB.out | apply below_alloc | apply pw_below_drewN | apply below_drew1) | exact HB.out)⟩⟩
                                ·rw [if_neg c79] at H
                                 exact absurd H (by simp)
                               ·rw [if_neg c78] at H
                                exact absurd H (by simp)
                              ·rw [if_neg c76] at H
                               exact absurd H (by simp)
                             ·rw [if_neg c75] at H
                              exact absurd H (by simp)
                           case rest =>
                            clear HC73
                            try clear c1
                            try clear c2
                            try clear p2
                            try clear c3
                            try clear c4
                            try clear c5
                            try clear c6
                            try clear p6
                            try clear c7
                            try clear c8
                            try clear c8b0
                            try clear p8
                            try clear q8
                            try clear hx8
                            try clear c10
                            try clear c10b0
                            try clear c10b1
                            try clear c13
                            try clear c13b0
                            try clear c14
                            try clear c14b0
                            try clear c17
                            try clear c17b0
                            try clear c18
                            try clear c18b0
                            try clear c19
                            try clear c19b0
                            try clear c20
                            try clear c20b0
                            try clear c20b1
                            try clear c21
                            try clear c21b0
                            try clear c22
                            try clear c29
                            try clear c29b0
                            try clear c29b1
                            try clear c32
                            try clear c32b0
                            try clear c33
                            try clear c36
                            try clear c36b0
                            try clear c36b1
                            try clear c38
                            try clear c38b0
                            try clear c38b1
                            try clear c39
                            try clear c39b0
                            try clear c39b1
                            try clear c39b2
                            try clear c40
                            try clear c40b0
                            try clear c44
                            try clear c46
                            try clear c46b0
                            try clear c46b1
                            try clear c52
                            try clear c52b0
                            try clear c54
                            try clear c54b0
                            try clear c55
                            try clear c55b0
                            try clear c57
                            try clear c57b0
                            try clear c58
                            try clear c58b0
                            try clear c62
                            try clear c62b0
                            try clear c62b1
                            try clear c62b2
                            try clear c63
                            try clear c63b0
                            try clear c63b1
                            try clear c64
                            try clear c64b0
                            try clear c64b1
                            try clear p64
                            try clear c66
                            try clear c66b0
                            try clear c67
                            try clear c67b0
                            try clear c68
                            try clear c68b0
                            try clear c69
                            try clear c69b0
                            try clear c70
                            try clear c70b0
                            try clear c71
                            try clear c71b0
                            try clear c74
                            try clear c74b0
                            try clear c75
                            try clear c75b0
                            try clear c76
                            try clear c76b0
                            try clear c78
                            try clear c78b0
                            try clear c79
                            try clear c79b0
                            try clear c80
                            try clear c80b0
                            try clear c80b1
                            try clear hcz6_0
                            try clear hcz72_0
                            try clear hfz6_0
                            try clear hfz72_0
                            try clear hx871_0
                            try clear hx887_0
                            try clear hx889_0
                            try clear hx890_0
                            try clear hx891_0
                            try clear hx892_0
                            try clear hx893_0
                            try clear hx894_0
                            try clear hx895_0
                            try clear p2
                            try clear p6
                            try clear p64
                            try clear p8
                            try clear p871
                            try clear p887
                            try clear p889
                            try clear p890
                            try clear p891
                            try clear p892
                            try clear p893
                            try clear p894
                            try clear p895
                            try clear q8
                            try clear q871
                            try clear q887
                            try clear q889
                            try clear q890
                            try clear q891
                            try clear q892
                            try clear q893
                            try clear q894
                            try clear q895
                            obtain ⟨kq, x192_72, rfl, HA, HJ72, HO_11, HO_15, HO_16, HO_17, HO_21, HO_22, BK0, HB⟩ := hcut
                            cases kq with
                            | zero => exact absurd HA.out (by simp [spec_l10Follow.j9])
                            | succ kj72 =>
                             have H := HA.out
                             clear HA
                             simp only [spec_l10Follow.j9] at H
                             by_cases c85 : x192_72 = true
                             ·subst c85
                              have H1 : (spec_l10Follow.l4 kj72 a2 (l0_0.length : Int) t868 x12_1 x15_3 x16_3 x17_3 x18_3 x19_3 x20_3 x21_7 x22_7 (wrap64 ((wrap64 ((wrap64 ((Go.bits .or .i64 x18_3 (ji47)) * 9)) + x20_3)) * 9)) x24_6 (wrap64 (x25_7 + 1)) l0_0) = some (r1, r2) := by rw [if_pos rfl] at H; exact H
                              clear H
                              have H := H1
                              clear H1
                              have H' := Aside0.mk H
                              clear H
                              go_wp2
                              repeat (go_quiet (fail); try go_wp2)
                              go_roundg kj72
                              case measure => have := HK1.out; have := HK2.out; have := HK3.out; have := HJ30.out; have := HJ33.out; have := HK6.out; have := HK7.out; have := HJ58.out; have := HJ72.out; omega
                              case rel => exact ⟨(x21_7), (x22_7), (wrap64 (x25_7 + 1)), (by first | rfl | (simp; done) | (simp [*]; done)), H', ⟨by have := HK1.out; have := HK2.out; have := HK3.out; have := HJ30.out; have := HJ33.out; have := HK6.out; have := HK7.out; have := HJ58.out; have := HJ72.out; omega⟩, ⟨by (with_reducible repeat (first | apply Kd.R_alloc | apply Kd.R_drewN | apply Kd.R_drew)); exact HO_11.out⟩, ⟨by (with_reducible repeat (first | apply Kd.R_alloc | apply Kd.R_drewN | apply Kd.R_drew)); exact HO_15.out⟩, ⟨by (with_reducible repeat (first | apply Kd.R_alloc | apply Kd.R_drewN | apply Kd.R_drew)); exact HO_16.out⟩, ⟨by (with_reducible repeat (first | apply Kd.R_alloc | apply Kd.R_drewN | apply Kd.R_drew)); exact HO_17.out⟩, ⟨by (with_reducible repeat (first | apply Kd.R_alloc | apply Kd.R_drewN | apply Kd.R_drew)); exact HO_21.out⟩, ⟨by (with_reducible repeat (first | apply Kd.R_alloc | apply Kd.R_drewN | apply Kd.R_drew)); exact HO_22.out⟩, ⟨by (with_reducible repeat first | refine b_N ?_ _ | refine b_D ?_ | refine b_A ?_ _); exact BK0.out⟩, ⟨by repeat (first | (with_reducible first | exact HB.out | apply below_alloc | apply pw_below_drewN | apply below_drew1) | exact HB.out)⟩⟩
                             ·replace c85 := Bool.eq_false_iff.mpr c85
                              subst c85
                              have H1 : (if 0 ≤ x24_6 then (if x24_6 < (x16_3.length : Int) then (if x21_7.length < 17592186044416 then (if x22_7.length < 17592186044416 then (spec_l10Follow.l4 kj72 a2 (l0_0.length : Int) t868 x12_1 x15_3 x16_3 x17_3 x18_3 x19_3 x20_3 (x21_7 ++ [wrap64 ((rd x16_3 x24_6) - x25_7)]) (x22_7 ++ [x26_58]) (wrap64 ((wrap64 ((wrap64 ((Go.bits .or .i64 x18_3 (ji47)) * 9)) + x20_3)) * 9)) x24_6 (wrap64 (x25_7 + 1)) l0_0) else (none)) else (none)) else (none)) else (none)) = some (r1, r2) := by rw [if_neg (show ¬ (false = true) by decide)] at H; exact H
                              clear H
                              have H := H1
                              clear H1
                              by_cases c86 : 0 ≤ x24_6
                              ·rw [if_pos c86] at H
                               have c86b0 : decide (0 ≤ x24_6) = true := decide_eq_true c86
                               clear c86
                               by_cases c87 : x24_6 < (x16_3.length : Int)
                               ·rw [if_pos c87] at H
                                have c87b0 : decide (x24_6 < (x16_3.length : Int)) = true := decide_eq_true c87
                                clear c87
                                by_cases c88 : x21_7.length < 17592186044416
                                ·rw [if_pos c88] at H
                                 have LMc88 := Aside0.mk c88
                                 clear c88
                                 obtain ⟨y898, hy898⟩ : ∃ y_ : List Int, y_ = (x21_7 ++ [wrap64 ((rd x16_3 x24_6) - x25_7)]) := ⟨_, rfl⟩
                                 replace H : (if x22_7.length < 17592186044416 then (spec_l10Follow.l4 kj72 a2 (l0_0.length : Int) t868 x12_1 x15_3 x16_3 x17_3 x18_3 x19_3 x20_3 y898 (x22_7 ++ [x26_58]) (wrap64 ((wrap64 ((wrap64 ((Go.bits .or .i64 x18_3 (ji47)) * 9)) + x20_3)) * 9)) x24_6 (wrap64 (x25_7 + 1)) l0_0) else (none)) = some (r1, r2) := by first | (rw [hy898]; with_reducible exact H) | (have H2_ := (Option.bind_some _ _).symm.trans H; rw [hy898]; with_reducible exact H2_) | (have H2_ := (Option.bind_some _ _).symm.trans H; with_reducible exact H2_) | with_reducible exact H | (rw [hy898]; exact H) | exact H
                                 have Ny898 := Aside0.mk hy898
                                 clear hy898
                                 by_cases c89 : x22_7.length < 17592186044416
                                 ·rw [if_pos c89] at H
                                  have LMc89 := Aside0.mk c89
                                  clear c89
                                  obtain ⟨y901, hy901⟩ : ∃ y_ : List Int, y_ = (x22_7 ++ [x26_58]) := ⟨_, rfl⟩
                                  replace H : (spec_l10Follow.l4 kj72 a2 (l0_0.length : Int) t868 x12_1 x15_3 x16_3 x17_3 x18_3 x19_3 x20_3 y898 y901 (wrap64 ((wrap64 ((wrap64 ((Go.bits .or .i64 x18_3 (ji47)) * 9)) + x20_3)) * 9)) x24_6 (wrap64 (x25_7 + 1)) l0_0) = some (r1, r2) := by first | (rw [hy901]; with_reducible exact H) | (have H2_ := (Option.bind_some _ _).symm.trans H; rw [hy901]; with_reducible exact H2_) | (have H2_ := (Option.bind_some _ _).symm.trans H; with_reducible exact H2_) | with_reducible exact H | (rw [hy901]; exact H) | exact H
                                  have Ny901 := Aside0.mk hy901
                                  clear hy901
                                  have H' := Aside0.mk H
                                  clear H
                                  have p897 : 0 ≤ (x24_6 : Int) := of_decide_eq_true (by first | (with_reducible assumption) | assumption)
                                  have q897 : x24_6 < (x16_3.length : Int) := of_decide_eq_true (by first | (with_reducible assumption) | assumption)
                                  obtain ⟨ad897, e897, hx897_0⟩ := Kd.at_int (Kd.R_reads' HO_16.out).2.2 x24_6 p897 q897
                                  obtain rfl : ad887 = ad897 := (by injection e897)
                                  replace p897 := eq_true p897
                                  replace q897 := eq_true q897
                                  go_wp2_with (first | ((with_reducible refine gate_builtin (b := .append) (xs := #[.tmp 193, .tmp 200]) rfl ?_); (try (refine gate_guard (by rfl) ?_; dsimp only)); at_builtin; refine Kd.R_append (Kd.int .i64) (w0 := w) w.heap.size rfl (.tmp 193) (.tmp 200) 28 2 (.int .i64 0) 8 rfl Try.underlying28 info2 rfl (by decide) (by omega) u21 x21_7 (wrap64 ((rd x16_3 x24_6) - x25_7)) [.int .i64 (wrap64 ((rd x16_3 x24_6) - x25_7))] (fun k_ => some k_ ≠ (v869 : Value).ownBlock ∧ some k_ ≠ (.slice Ao61 x15_3.length co61 : Value).ownBlock ∧ some k_ ≠ (.slice (some ad887) x16_3.length co53 : Value).ownBlock ∧ some k_ ≠ (.slice (some ad889) x17_3.length co60 : Value).ownBlock ∧ some k_ ≠ (u22 : Value).ownBlock) (fun _ => False) rfl rfl ?aP (fun _ hk => hk.elim) ?aF ?aO ?aB ?aS ?aL ?_; (case aP => exact rfl); (case aB => exact (by repeat (first | (with_reducible first | exact HB.out | apply below_alloc | apply pw_below_drewN | apply below_drew1) | exact HB.out))); (case aF => exact (fun k_ hk => ⟨Kd.fresh' (Kd.R_lt (by (with_reducible repeat first | apply k_A | apply k_N | apply k_D); exact HO_11.out)) k_ hk, Kd.fresh' (Kd.R_lt (by (with_reducible repeat first | apply k_A | apply k_N | apply k_D); exact HO_15.out)) k_ hk, Kd.fresh' (Kd.R_lt (by (with_reducible repeat first | apply k_A | apply k_N | apply k_D); exact HO_16.out)) k_ hk, Kd.fresh' (Kd.R_lt (by (with_reducible repeat first | apply k_A | apply k_N | apply k_D); exact HO_17.out)) k_ hk, Kd.fresh' (Kd.R_lt (by (with_reducible repeat first | apply k_A | apply k_N | apply k_D); exact HO_22.out)) k_ hk⟩)); (case aO => exact (by (with_reducible repeat first | apply k_A | apply k_N | apply k_D); exact HO_21.out)); (case aS => exact (below_size (by repeat (first | (with_reducible first | exact HB.out | apply below_alloc | apply pw_below_drewN | apply below_drew1) | exact HB.out)))); (case aL => have := LMc88.out; omega); intro v899 w90 ho hb hg hat; rw [← Ny898.out] at ho; have n0_ := Aside0.mk (Kd.R_after (ok := (fun k_ => some k_ ≠ (.slice Ao61 x15_3.length co61 : Value).ownBlock ∧ some k_ ≠ (.slice (some ad887) x16_3.length co53 : Value).ownBlock ∧ some k_ ≠ (.slice (some ad889) x17_3.length co60 : Value).ownBlock ∧ some k_ ≠ (u22 : Value).ownBlock)) (by (with_reducible repeat first | apply k_A | apply k_N | apply k_D); exact Kd.R_mono HO_11.out (fun _ hk => ⟨⟨hk.1, ⟨hk.2.1, ⟨hk.2.2.1, hk.2.2.2.2⟩⟩⟩, hk.2.2.2.1⟩)) hg hat); have n1_ := Aside0.mk (Kd.R_after (ok := (fun k_ => some k_ ≠ (v869 : Value).ownBlock ∧ some k_ ≠ (.slice (some ad887) x16_3.length co53 : Value).ownBlock ∧ some k_ ≠ (.slice (some ad889) x17_3.length co60 : Value).ownBlock ∧ some k_ ≠ (u22 : Value).ownBlock)) (by (with_reducible repeat first | apply k_A | apply k_N | apply k_D); exact Kd.R_mono HO_15.out (fun _ hk => ⟨⟨hk.1, ⟨hk.2.1, ⟨hk.2.2.1, hk.2.2.2.2⟩⟩⟩, hk.2.2.2.1⟩)) hg hat); have n2_ := Aside0.mk (Kd.R_after (ok := (fun k_ => some k_ ≠ (v869 : Value).ownBlock ∧ some k_ ≠ (.slice Ao61 x15_3.length co61 : Value).ownBlock ∧ some k_ ≠ (.slice (some ad889) x17_3.length co60 : Value).ownBlock ∧ some k_ ≠ (u22 : Value).ownBlock)) (by (with_reducible repeat first | apply k_A | apply k_N | apply k_D); exact Kd.R_mono HO_16.out (fun _ hk => ⟨⟨hk.1, ⟨hk.2.1, ⟨hk.2.2.1, hk.2.2.2.2⟩⟩⟩, hk.2.2.2.1⟩)) hg hat); have n3_ := Aside0.mk (Kd.R_after (ok := (fun k_ => some k_ ≠ (v869 : Value).ownBlock ∧ some k_ ≠ (.slice Ao61 x15_3.length co61 : Value).ownBlock ∧ some k_ ≠ (.slice (some ad887) x16_3.length co53 : Value).ownBlock ∧ some k_ ≠ (u22 : Value).ownBlock)) (by (with_reducible repeat first | apply k_A | apply k_N | apply k_D); exact Kd.R_mono HO_17.out (fun _ hk => ⟨⟨hk.1, ⟨hk.2.1, ⟨hk.2.2.1, hk.2.2.2.2⟩⟩⟩, hk.2.2.2.1⟩)) hg hat); have n4_ := Aside0.mk (Kd.R_after (ok := (fun k_ => some k_ ≠ (v869 : Value).ownBlock ∧ some k_ ≠ (.slice Ao61 x15_3.length co61 : Value).ownBlock ∧ some k_ ≠ (.slice (some ad887) x16_3.length co53 : Value).ownBlock ∧ some k_ ≠ (.slice (some ad889) x17_3.length co60 : Value).ownBlock)) (by (with_reducible repeat first | apply k_A | apply k_N | apply k_D); exact Kd.R_mono HO_22.out (fun _ hk => ⟨⟨hk.1, ⟨hk.2.1, ⟨hk.2.2.1, hk.2.2.2.1⟩⟩⟩, hk.2.2.2.2⟩)) hg hat); have n5_ := Aside0.mk (blk_grown (g := g0) (o := .cells #[.slice A0_0 l0_0.length c0_0] 44 (0, 0)) (by (with_reducible repeat first | refine b_N ?_ _ | refine b_D ?_ | refine b_A ?_ _); exact BK0.out) hg (Kd.R_ne HO_21.out BK0.out (by decide))); have n6_ := Aside0.mk (hb); have n7_ := Aside0.mk (ho); clear HO_11; clear HO_15; clear HO_16; clear HO_17; clear HO_22; clear BK0; clear HB; clear HO_21; have HO_11 := n0_; have HO_15 := n1_; have HO_16 := n2_; have HO_17 := n3_; have HO_22 := n4_; have BK0 := n5_; have HB := n6_; have HO900 := n7_; clear n0_ n1_ n2_ n3_ n4_ n5_ n6_ n7_; clear ho hb hg hat) | ((with_reducible refine gate_builtin (b := .append) (xs := #[.tmp 202, .tmp 204]) rfl ?_); (try (refine gate_guard (by rfl) ?_; dsimp only)); at_builtin; refine Kd.R_append (Kd.int .i64) (w0 := w) w.heap.size rfl (.tmp 202) (.tmp 204) 28 2 (.int .i64 0) 8 rfl Try.underlying28 info2 rfl (by decide) (by omega) u22 x22_7 x26_58 [.int .i64 x26_58] (fun k_ => some k_ ≠ (v869 : Value).ownBlock ∧ some k_ ≠ (.slice Ao61 x15_3.length co61 : Value).ownBlock ∧ some k_ ≠ (.slice (some ad887) x16_3.length co53 : Value).ownBlock ∧ some k_ ≠ (.slice (some ad889) x17_3.length co60 : Value).ownBlock ∧ some k_ ≠ (v899 : Value).ownBlock) (fun _ => False) rfl rfl ?aP (fun _ hk => hk.elim) ?aF ?aO ?aB ?aS ?aL ?_; (case aP => exact rfl); (case aB => exact (by repeat (first | (with_reducible first | exact HB.out | apply below_alloc | apply pw_below_drewN | apply below_drew1) | exact HB.out))); (case aF => exact (fun k_ hk => ⟨Kd.fresh' (Kd.R_lt (by (with_reducible repeat first | apply k_A | apply k_N | apply k_D); exact HO_11.out)) k_ hk, Kd.fresh' (Kd.R_lt (by (with_reducible repeat first | apply k_A | apply k_N | apply k_D); exact HO_15.out)) k_ hk, Kd.fresh' (Kd.R_lt (by (with_reducible repeat first | apply k_A | apply k_N | apply k_D); exact HO_16.out)) k_ hk, Kd.fresh' (Kd.R_lt (by (with_reducible repeat first | apply k_A | apply k_N | apply k_D); exact HO_17.out)) k_ hk, Kd.fresh' (Kd.R_lt (by (with_reducible repeat first | apply k_A | apply k_N | apply k_D); exact HO900.out)) k_ hk⟩)); (case aO => exact (by (with_reducible repeat first | apply k_A | apply k_N | apply k_D); exact Kd.R_mono HO_22.out (fun _ hk => ⟨hk.1.1, ⟨hk.1.2.1, ⟨hk.1.2.2.1, ⟨hk.1.2.2.2, hk.2⟩⟩⟩⟩))); (case aS => exact (below_size (by repeat (first | (with_reducible first | exact HB.out | apply below_alloc | apply pw_below_drewN | apply below_drew1) | exact HB.out)))); (case aL => have := LMc89.out; omega); intro v902 w91 ho hb hg hat; rw [← Ny901.out] at ho; have n0_ := Aside0.mk (Kd.R_after (ok := (fun k_ => some k_ ≠ (.slice Ao61 x15_3.length co61 : Value).ownBlock ∧ some k_ ≠ (.slice (some ad887) x16_3.length co53 : Value).ownBlock ∧ some k_ ≠ (.slice (some ad889) x17_3.length co60 : Value).ownBlock ∧ some k_ ≠ (v899 : Value).ownBlock)) (by (with_reducible repeat first | apply k_A | apply k_N | apply k_D); exact Kd.R_mono HO_11.out (fun _ hk => ⟨⟨hk.1.1, ⟨hk.1.2.1, ⟨hk.1.2.2.1, hk.2⟩⟩⟩, hk.1.2.2.2⟩)) hg hat); have n1_ := Aside0.mk (Kd.R_after (ok := (fun k_ => some k_ ≠ (v869 : Value).ownBlock ∧ some k_ ≠ (.slice (some ad887) x16_3.length co53 : Value).ownBlock ∧ some k_ ≠ (.slice (some ad889) x17_3.length co60 : Value).ownBlock ∧ some k_ ≠ (v899 : Value).ownBlock)) (by (with_reducible repeat first | apply k_A | apply k_N | apply k_D); exact Kd.R_mono HO_15.out (fun _ hk => ⟨⟨hk.1.1, ⟨hk.1.2.1, ⟨hk.1.2.2.1, hk.2⟩⟩⟩, hk.1.2.2.2⟩)) hg hat); have n2_ := Aside0.mk (Kd.R_after (ok := (fun k_ => some k_ ≠ (v869 : Value).ownBlock ∧ some k_ ≠ (.slice Ao61 x15_3.length co61 : Value).ownBlock ∧ some k_ ≠ (.slice (some ad889) x17_3.length co60 : Value).ownBlock ∧ some k_ ≠ (v899 : Value).ownBlock)) (by (with_reducible repeat first | apply k_A | apply k_N | apply k_D); exact Kd.R_mono HO_16.out (fun _ hk => ⟨⟨hk.1.1, ⟨hk.1.2.1, ⟨hk.1.2.2.1, hk.2⟩⟩⟩, hk.1.2.2.2⟩)) hg hat); have n3_ := Aside0.mk (Kd.R_after (ok := (fun k_ => some k_ ≠ (v869 : Value).ownBlock ∧ some k_ ≠ (.slice Ao61 x15_3.length co61 : Value).ownBlock ∧ some k_ ≠ (.slice (some ad887) x16_3.length co53 : Value).ownBlock ∧ some k_ ≠ (v899 : Value).ownBlock)) (by (with_reducible repeat first | apply k_A | apply k_N | apply k_D); exact Kd.R_mono HO_17.out (fun _ hk => ⟨⟨hk.1.1, ⟨hk.1.2.1, ⟨hk.1.2.2.1, hk.2⟩⟩⟩, hk.1.2.2.2⟩)) hg hat); have n4_ := Aside0.mk (blk_grown (g := g0) (o := .cells #[.slice A0_0 l0_0.length c0_0] 44 (0, 0)) (by (with_reducible repeat first | refine b_N ?_ _ | refine b_D ?_ | refine b_A ?_ _); exact BK0.out) hg (Kd.R_ne HO_22.out BK0.out (by decide))); have n5_ := Aside0.mk (Kd.R_after (ok := (fun k_ => some k_ ≠ (v869 : Value).ownBlock ∧ some k_ ≠ (.slice Ao61 x15_3.length co61 : Value).ownBlock ∧ some k_ ≠ (.slice (some ad887) x16_3.length co53 : Value).ownBlock ∧ some k_ ≠ (.slice (some ad889) x17_3.length co60 : Value).ownBlock)) (by (with_reducible repeat first | apply k_A | apply k_N | apply k_D); exact Kd.R_mono HO900.out (fun _ hk => ⟨⟨hk.1, ⟨hk.2.1, ⟨hk.2.2.1, hk.2.2.2.1⟩⟩⟩, hk.2.2.2.2⟩)) hg hat); have n6_ := Aside0.mk (hb); have n7_ := Aside0.mk (ho); clear HO_11; clear HO_15; clear HO_16; clear HO_17; clear BK0; clear HO900; clear HB; clear HO_22; have HO_11 := n0_; have HO_15 := n1_; have HO_16 := n2_; have HO_17 := n3_; have BK0 := n4_; have HO900 := n5_; have HB := n6_; have HO903 := n7_; clear n0_ n1_ n2_ n3_ n4_ n5_ n6_ n7_; clear ho hb hg hat))
                                  repeat (go_quiet (first | ((with_reducible refine gate_builtin (b := .append) (xs := #[.tmp 193, .tmp 200]) rfl ?_); (try (refine gate_guard (by rfl) ?_; dsimp only)); at_builtin; refine Kd.R_append (Kd.int .i64) (w0 := w) w.heap.size rfl (.tmp 193) (.tmp 200) 28 2 (.int .i64 0) 8 rfl Try.underlying28 info2 rfl (by decide) (by omega) u21 x21_7 (wrap64 ((rd x16_3 x24_6) - x25_7)) [.int .i64 (wrap64 ((rd x16_3 x24_6) - x25_7))] (fun k_ => some k_ ≠ (v869 : Value).ownBlock ∧ some k_ ≠ (.slice Ao61 x15_3.length co61 : Value).ownBlock ∧ some k_ ≠ (.slice (some ad887) x16_3.length co53 : Value).ownBlock ∧ some k_ ≠ (.slice (some ad889) x17_3.length co60 : Value).ownBlock ∧ some k_ ≠ (u22 : Value).ownBlock) (fun _ => False) rfl rfl ?aP (fun _ hk => hk.elim) ?aF ?aO ?aB ?aS ?aL ?_; (case aP => exact rfl); (case aB => exact (by repeat (first | (with_reducible first | exact HB.out | apply below_alloc | apply pw_below_drewN | apply below_drew1) | exact HB.out))); (case aF => exact (fun k_ hk => ⟨Kd.fresh' (Kd.R_lt (by (with_reducible repeat first | apply k_A | apply k_N | apply k_D); exact HO_11.out)) k_ hk, Kd.fresh' (Kd.R_lt (by (with_reducible repeat first | apply k_A | apply k_N | apply k_D); exact HO_15.out)) k_ hk, Kd.fresh' (Kd.R_lt (by (with_reducible repeat first | apply k_A | apply k_N | apply k_D); exact HO_16.out)) k_ hk, Kd.fresh' (Kd.R_lt (by (with_reducible repeat first | apply k_A | apply k_N | apply k_D); exact HO_17.out)) k_ hk, Kd.fresh' (Kd.R_lt (by (with_reducible repeat first | apply k_A | apply k_N | apply k_D); exact HO_22.out)) k_ hk⟩)); (case aO => exact (by (with_reducible repeat first | apply k_A | apply k_N | apply k_D); exact HO_21.out)); (case aS => exact (below_size (by repeat (first | (with_reducible first | exact HB.out | apply below_alloc | apply pw_below_drewN | apply below_drew1) | exact HB.out)))); (case aL => have := LMc88.out; omega); intro v899 w90 ho hb hg hat; rw [← Ny898.out] at ho; have n0_ := Aside0.mk (Kd.R_after (ok := (fun k_ => some k_ ≠ (.slice Ao61 x15_3.length co61 : Value).ownBlock ∧ some k_ ≠ (.slice (some ad887) x16_3.length co53 : Value).ownBlock ∧ some k_ ≠ (.slice (some ad889) x17_3.length co60 : Value).ownBlock ∧ some k_ ≠ (u22 : Value).ownBlock)) (by (with_reducible repeat first | apply k_A | apply k_N | apply k_D); exact Kd.R_mono HO_11.out (fun _ hk => ⟨⟨hk.1, ⟨hk.2.1, ⟨hk.2.2.1, hk.2.2.2.2⟩⟩⟩, hk.2.2.2.1⟩)) hg hat); have n1_ := Aside0.mk (Kd.R_after (ok := (fun k_ => some k_ ≠ (v869 : Value).ownBlock ∧ some k_ ≠ (.slice (some ad887) x16_3.length co53 : Value).ownBlock ∧ some k_ ≠ (.slice (some ad889) x17_3.length co60 : Value).ownBlock ∧ some k_ ≠ (u22 : Value).ownBlock)) (by (with_reducible repeat first | apply k_A | apply k_N | apply k_D); exact Kd.R_mono HO_15.out (fun _ hk => ⟨⟨hk.1, ⟨hk.2.1, ⟨hk.2.2.1, hk.2.2.2.2⟩⟩⟩, hk.2.2.2.1⟩)) hg hat); have n2_ := Aside0.mk (Kd.R_after (ok := (fun k_ => some k_ ≠ (v869 : Value).ownBlock ∧ some k_ ≠ (.slice Ao61 x15_3.length co61 : Value).ownBlock ∧ some k_ ≠ (.slice (some ad889) x17_3.length co60 : Value).ownBlock ∧ some k_ ≠ (u22 : Value).ownBlock)) (by (with_reducible repeat first | apply k_A | apply k_N | apply k_D); exact Kd.R_mono HO_16.out (fun _ hk => ⟨⟨hk.1, ⟨hk.2.1, ⟨hk.2.2.1, hk.2.2.2.2⟩⟩⟩, hk.2.2.2.1⟩)) hg hat); have n3_ := Aside0.mk (Kd.R_after (ok := (fun k_ => some k_ ≠ (v869 : Value).ownBlock ∧ some k_ ≠ (.slice Ao61 x15_3.length co61 : Value).ownBlock ∧ some k_ ≠ (.slice (some ad887) x16_3.length co53 : Value).ownBlock ∧ some k_ ≠ (u22 : Value).ownBlock)) (by (with_reducible repeat first | apply k_A | apply k_N | apply k_D); exact Kd.R_mono HO_17.out (fun _ hk => ⟨⟨hk.1, ⟨hk.2.1, ⟨hk.2.2.1, hk.2.2.2.2⟩⟩⟩, hk.2.2.2.1⟩)) hg hat); have n4_ := Aside0.mk (Kd.R_after (ok := (fun k_ => some k_ ≠ (v869 : Value).ownBlock ∧ some k_ ≠ (.slice Ao61 x15_3.length co61 : Value).ownBlock ∧ some k_ ≠ (.slice (some ad887) x16_3.length co53 : Value).ownBlock ∧ some k_ ≠ (.slice (some ad889) x17_3.length co60 : Value).ownBlock)) (by (with_reducible repeat first | apply k_A | apply k_N | apply k_D); exact Kd.R_mono HO_22.out (fun _ hk => ⟨⟨hk.1, ⟨hk.2.1, ⟨hk.2.2.1, hk.2.2.2.1⟩⟩⟩, hk.2.2.2.2⟩)) hg hat); have n5_ := Aside0.mk (blk_grown (g := g0) (o := .cells #[.slice A0_0 l0_0.length c0_0] 44 (0, 0)) (by (with_reducible repeat first | refine b_N ?_ _ | refine b_D ?_ | refine b_A ?_ _); exact BK0.out) hg (Kd.R_ne HO_21.out BK0.out (by decide))); have n6_ := Aside0.mk (hb); have n7_ := Aside0.mk (ho); clear HO_11; clear HO_15; clear HO_16; clear HO_17; clear HO_22; clear BK0; clear HB; clear HO_21; have HO_11 := n0_; have HO_15 := n1_; have HO_16 := n2_; have HO_17 := n3_; have HO_22 := n4_; have BK0 := n5_; have HB := n6_; have HO900 := n7_; clear n0_ n1_ n2_ n3_ n4_ n5_ n6_ n7_; clear ho hb hg hat) | ((with_reducible refine gate_builtin (b := .append) (xs := #[.tmp 202, .tmp 204]) rfl ?_); (try (refine gate_guard (by rfl) ?_; dsimp only)); at_builtin; refine Kd.R_append (Kd.int .i64) (w0 := w) w.heap.size rfl (.tmp 202) (.tmp 204) 28 2 (.int .i64 0) 8 rfl Try.underlying28 info2 rfl (by decide) (by omega) u22 x22_7 x26_58 [.int .i64 x26_58] (fun k_ => some k_ ≠ (v869 : Value).ownBlock ∧ some k_ ≠ (.slice Ao61 x15_3.length co61 : Value).ownBlock ∧ some k_ ≠ (.slice (some ad887) x16_3.length co53 : Value).ownBlock ∧ some k_ ≠ (.slice (some ad889) x17_3.length co60 : Value).ownBlock ∧ some k_ ≠ (v899 : Value).ownBlock) (fun _ => False) rfl rfl ?aP (fun _ hk => hk.elim) ?aF ?aO ?aB ?aS ?aL ?_; (case aP => exact rfl); (case aB => exact (by repeat (first | (with_reducible first | exact HB.out | apply below_alloc | apply pw_below_drewN | apply below_drew1) | exact HB.out))); (case aF => exact (fun k_ hk => ⟨Kd.fresh' (Kd.R_lt (by (with_reducible repeat first | apply k_A | apply k_N | apply k_D); exact HO_11.out)) k_ hk, Kd.fresh' (Kd.R_lt (by (with_reducible repeat first | apply k_A | apply k_N | apply k_D); exact HO_15.out)) k_ hk, Kd.fresh' (Kd.R_lt (by (with_reducible repeat first | apply k_A | apply k_N | apply k_D); exact HO_16.out)) k_ hk, Kd.fresh' (Kd.R_lt (by (with_reducible repeat first | apply k_A | apply k_N | apply k_D); exact HO_17.out)) k_ hk, Kd.fresh' (Kd.R_lt (by (with_reducible repeat first | apply k_A | apply k_N | apply k_D); exact HO900.out)) k_ hk⟩)); (case aO => exact (by (with_reducible repeat first | apply k_A | apply k_N | apply k_D); exact Kd.R_mono HO_22.out (fun _ hk => ⟨hk.1.1, ⟨hk.1.2.1, ⟨hk.1.2.2.1, ⟨hk.1.2.2.2, hk.2⟩⟩⟩⟩))); (case aS => exact (below_size (by repeat (first | (with_reducible first | exact HB.out | apply below_alloc | apply pw_below_drewN | apply below_drew1) | exact HB.out)))); (case aL => have := LMc89.out; omega); intro v902 w91 ho hb hg hat; rw [← Ny901.out] at ho; have n0_ := Aside0.mk (Kd.R_after (ok := (fun k_ => some k_ ≠ (.slice Ao61 x15_3.length co61 : Value).ownBlock ∧ some k_ ≠ (.slice (some ad887) x16_3.length co53 : Value).ownBlock ∧ some k_ ≠ (.slice (some ad889) x17_3.length co60 : Value).ownBlock ∧ some k_ ≠ (v899 : Value).ownBlock)) (by (with_reducible repeat first | apply k_A | apply k_N | apply k_D); exact Kd.R_mono HO_11.out (fun _ hk => ⟨⟨hk.1.1, ⟨hk.1.2.1, ⟨hk.1.2.2.1, hk.2⟩⟩⟩, hk.1.2.2.2⟩)) hg hat); have n1_ := Aside0.mk (Kd.R_after (ok := (fun k_ => some k_ ≠ (v869 : Value).ownBlock ∧ some k_ ≠ (.slice (some ad887) x16_3.length co53 : Value).ownBlock ∧ some k_ ≠ (.slice (some ad889) x17_3.length co60 : Value).ownBlock ∧ some k_ ≠ (v899 : Value).ownBlock)) (by (with_reducible repeat first | apply k_A | apply k_N | apply k_D); exact Kd.R_mono HO_15.out (fun _ hk => ⟨⟨hk.1.1, ⟨hk.1.2.1, ⟨hk.1.2.2.1, hk.2⟩⟩⟩, hk.1.2.2.2⟩)) hg hat); have n2_ := Aside0.mk (Kd.R_after (ok := (fun k_ => some k_ ≠ (v869 : Value).ownBlock ∧ some k_ ≠ (.slice Ao61 x15_3.length co61 : Value).ownBlock ∧ some k_ ≠ (.slice (some ad889) x17_3.length co60 : Value).ownBlock ∧ some k_ ≠ (v899 : Value).ownBlock)) (by (with_reducible repeat first | apply k_A | apply k_N | apply k_D); exact Kd.R_mono HO_16.out (fun _ hk => ⟨⟨hk.1.1, ⟨hk.1.2.1, ⟨hk.1.2.2.1, hk.2⟩⟩⟩, hk.1.2.2.2⟩)) hg hat); have n3_ := Aside0.mk (Kd.R_after (ok := (fun k_ => some k_ ≠ (v869 : Value).ownBlock ∧ some k_ ≠ (.slice Ao61 x15_3.length co61 : Value).ownBlock ∧ some k_ ≠ (.slice (some ad887) x16_3.length co53 : Value).ownBlock ∧ some k_ ≠ (v899 : Value).ownBlock)) (by (with_reducible repeat first | apply k_A | apply k_N | apply k_D); exact Kd.R_mono HO_17.out (fun _ hk => ⟨⟨hk.1.1, ⟨hk.1.2.1, ⟨hk.1.2.2.1, hk.2⟩⟩⟩, hk.1.2.2.2⟩)) hg hat); have n4_ := Aside0.mk (blk_grown (g := g0) (o := .cells #[.slice A0_0 l0_0.length c0_0] 44 (0, 0)) (by (with_reducible repeat first | refine b_N ?_ _ | refine b_D ?_ | refine b_A ?_ _); exact BK0.out) hg (Kd.R_ne HO_22.out BK0.out (by decide))); have n5_ := Aside0.mk (Kd.R_after (ok := (fun k_ => some k_ ≠ (v869 : Value).ownBlock ∧ some k_ ≠ (.slice Ao61 x15_3.length co61 : Value).ownBlock ∧ some k_ ≠ (.slice (some ad887) x16_3.length co53 : Value).ownBlock ∧ some k_ ≠ (.slice (some ad889) x17_3.length co60 : Value).ownBlock)) (by (with_reducible repeat first | apply k_A | apply k_N | apply k_D); exact Kd.R_mono HO900.out (fun _ hk => ⟨⟨hk.1, ⟨hk.2.1, ⟨hk.2.2.1, hk.2.2.2.1⟩⟩⟩, hk.2.2.2.2⟩)) hg hat); have n6_ := Aside0.mk (hb); have n7_ := Aside0.mk (ho); clear HO_11; clear HO_15; clear HO_16; clear HO_17; clear BK0; clear HO900; clear HB; clear HO_22; have HO_11 := n0_; have HO_15 := n1_; have HO_16 := n2_; have HO_17 := n3_; have BK0 := n4_; have HO900 := n5_; have HB := n6_; have HO903 := n7_; clear n0_ n1_ n2_ n3_ n4_ n5_ n6_ n7_; clear ho hb hg hat)); try go_wp2_with (first | ((with_reducible refine gate_builtin (b := .append) (xs := #[.tmp 193, .tmp 200]) rfl ?_); (try (refine gate_guard (by rfl) ?_; dsimp only)); at_builtin; refine Kd.R_append (Kd.int .i64) (w0 := w) w.heap.size rfl (.tmp 193) (.tmp 200) 28 2 (.int .i64 0) 8 rfl Try.underlying28 info2 rfl (by decide) (by omega) u21 x21_7 (wrap64 ((rd x16_3 x24_6) - x25_7)) [.int .i64 (wrap64 ((rd x16_3 x24_6) - x25_7))] (fun k_ => some k_ ≠ (v869 : Value).ownBlock ∧ some k_ ≠ (.slice Ao61 x15_3.length co61 : Value).ownBlock ∧ some k_ ≠ (.slice (some ad887) x16_3.length co53 : Value).ownBlock ∧ some k_ ≠ (.slice (some ad889) x17_3.length co60 : Value).ownBlock ∧ some k_ ≠ (u22 : Value).ownBlock) (fun _ => False) rfl rfl ?aP (fun _ hk => hk.elim) ?aF ?aO ?aB ?aS ?aL ?_; (case aP => exact rfl); (case aB => exact (by repeat (first | (with_reducible first | exact HB.out | apply below_alloc | apply pw_below_drewN | apply below_drew1) | exact HB.out))); (case aF => exact (fun k_ hk => ⟨Kd.fresh' (Kd.R_lt (by (with_reducible repeat first | apply k_A | apply k_N | apply k_D); exact HO_11.out)) k_ hk, Kd.fresh' (Kd.R_lt (by (with_reducible repeat first | apply k_A | apply k_N | apply k_D); exact HO_15.out)) k_ hk, Kd.fresh' (Kd.R_lt (by (with_reducible repeat first | apply k_A | apply k_N | apply k_D); exact HO_16.out)) k_ hk, Kd.fresh' (Kd.R_lt (by (with_reducible repeat first | apply k_A | apply k_N | apply k_D); exact HO_17.out)) k_ hk, Kd.fresh' (Kd.R_lt (by (with_reducible repeat first | apply k_A | apply k_N | apply k_D); exact HO_22.out)) k_ hk⟩)); (case aO => exact (by (with_reducible repeat first | apply k_A | apply k_N | apply k_D); exact HO_21.out)); (case aS => exact (below_size (by repeat (first | (with_reducible first | exact HB.out | apply below_alloc | apply pw_below_drewN | apply below_drew1) | exact HB.out)))); (case aL => have := LMc88.out; omega); intro v899 w90 ho hb hg hat; rw [← Ny898.out] at ho; have n0_ := Aside0.mk (Kd.R_after (ok := (fun k_ => some k_ ≠ (.slice Ao61 x15_3.length co61 : Value).ownBlock ∧ some k_ ≠ (.slice (some ad887) x16_3.length co53 : Value).ownBlock ∧ some k_ ≠ (.slice (some ad889) x17_3.length co60 : Value).ownBlock ∧ some k_ ≠ (u22 : Value).ownBlock)) (by (with_reducible repeat first | apply k_A | apply k_N | apply k_D); exact Kd.R_mono HO_11.out (fun _ hk => ⟨⟨hk.1, ⟨hk.2.1, ⟨hk.2.2.1, hk.2.2.2.2⟩⟩⟩, hk.2.2.2.1⟩)) hg hat); have n1_ := Aside0.mk (Kd.R_after (ok := (fun k_ => some k_ ≠ (v869 : Value).ownBlock ∧ some k_ ≠ (.slice (some ad887) x16_3.length co53 : Value).ownBlock ∧ some k_ ≠ (.slice (some ad889) x17_3.length co60 : Value).ownBlock ∧ some k_ ≠ (u22 : Value).ownBlock)) (by (with_reducible repeat first | apply k_A | apply k_N | apply k_D); exact Kd.R_mono HO_15.out (fun _ hk => ⟨⟨hk.1, ⟨hk.2.1, ⟨hk.2.2.1, hk.2.2.2.2⟩⟩⟩, hk.2.2.2.1⟩)) hg hat); have n2_ := Aside0.mk (Kd.R_after (ok := (fun k_ => some k_ ≠ (v869 : Value).ownBlock ∧ some k_ ≠ (.slice Ao61 x15_3.length co61 : Value).ownBlock ∧ some k_ ≠ (.slice (some ad889) x17_3.length co60 : Value).ownBlock ∧ some k_ ≠ (u22 : Value).ownBlock)) (by (with_reducible repeat first | apply k_A | apply k_N | apply k_D); exact Kd.R_mono HO_16.out (fun _ hk => ⟨⟨hk.1, ⟨hk.2.1, ⟨hk.2.2.1, hk.2.2.2.2⟩⟩⟩, hk.2.2.2.1⟩)) hg hat); have n3_ := Aside0.mk (Kd.R_after (ok := (fun k_ => some k_ ≠ (v869 : Value).ownBlock ∧ some k_ ≠ (.slice Ao61 x15_3.length co61 : Value).ownBlock ∧ some k_ ≠ (.slice (some ad887) x16_3.length co53 : Value).ownBlock ∧ some k_ ≠ (u22 : Value).ownBlock)) (by (with_reducible repeat first | apply k_A | apply k_N | apply k_D); exact Kd.R_mono HO_17.out (fun _ hk => ⟨⟨hk.1, ⟨hk.2.1, ⟨hk.2.2.1, hk.2.2.2.2⟩⟩⟩, hk.2.2.2.1⟩)) hg hat); have n4_ := Aside0.mk (Kd.R_after (ok := (fun k_ => some k_ ≠ (v869 : Value).ownBlock ∧ some k_ ≠ (.slice Ao61 x15_3.length co61 : Value).ownBlock ∧ some k_ ≠ (.slice (some ad887) x16_3.length co53 : Value).ownBlock ∧ some k_ ≠ (.slice (some ad889) x17_3.length co60 : Value).ownBlock)) (by (with_reducible repeat first | apply k_A | apply k_N | apply k_D); exact Kd.R_mono HO_22.out (fun _ hk => ⟨⟨hk.1, ⟨hk.2.1, ⟨hk.2.2.1, hk.2.2.2.1⟩⟩⟩, hk.2.2.2.2⟩)) hg hat); have n5_ := Aside0.mk (blk_grown (g := g0) (o := .cells #[.slice A0_0 l0_0.length c0_0] 44 (0, 0)) (by (with_reducible repeat first | refine b_N ?_ _ | refine b_D ?_ | refine b_A ?_ _); exact BK0.out) hg (Kd.R_ne HO_21.out BK0.out (by decide))); have n6_ := Aside0.mk (hb); have n7_ := Aside0.mk (ho); clear HO_11; clear HO_15; clear HO_16; clear HO_17; clear HO_22; clear BK0; clear HB; clear HO_21; have HO_11 := n0_; have HO_15 := n1_; have HO_16 := n2_; have HO_17 := n3_; have HO_22 := n4_; have BK0 := n5_; have HB := n6_; have HO900 := n7_; clear n0_ n1_ n2_ n3_ n4_ n5_ n6_ n7_; clear ho hb hg hat) | ((with_reducible refine gate_builtin (b := .append) (xs := #[.tmp 202, .tmp 204]) rfl ?_); (try (refine gate_guard (by rfl) ?_; dsimp only)); at_builtin; refine Kd.R_append (Kd.int .i64) (w0 := w) w.heap.size rfl (.tmp 202) (.tmp 204) 28 2 (.int .i64 0) 8 rfl Try.underlying28 info2 rfl (by decide) (by omega) u22 x22_7 x26_58 [.int .i64 x26_58] (fun k_ => some k_ ≠ (v869 : Value).ownBlock ∧ some k_ ≠ (.slice Ao61 x15_3.length co61 : Value).ownBlock ∧ some k_ ≠ (.slice (some ad887) x16_3.length co53 : Value).ownBlock ∧ some k_ ≠ (.slice (some ad889) x17_3.length co60 : Value).ownBlock ∧ some k_ ≠ (v899 : Value).ownBlock) (fun _ => False) rfl rfl ?aP (fun _ hk => hk.elim) ?aF ?aO ?aB ?aS ?aL ?_; (case aP => exact rfl); (case aB => exact (by repeat (first | (with_reducible first | exact HB.out | apply below_alloc | apply pw_below_drewN | apply below_drew1) | exact HB.out))); (case aF => exact (fun k_ hk => ⟨Kd.fresh' (Kd.R_lt (by (with_reducible repeat first | apply k_A | apply k_N | apply k_D); exact HO_11.out)) k_ hk, Kd.fresh' (Kd.R_lt (by (with_reducible repeat first | apply k_A | apply k_N | apply k_D); exact HO_15.out)) k_ hk, Kd.fresh' (Kd.R_lt (by (with_reducible repeat first | apply k_A | apply k_N | apply k_D); exact HO_16.out)) k_ hk, Kd.fresh' (Kd.R_lt (by (with_reducible repeat first | apply k_A | apply k_N | apply k_D); exact HO_17.out)) k_ hk, Kd.fresh' (Kd.R_lt (by (with_reducible repeat first | apply k_A | apply k_N | apply k_D); exact HO900.out)) k_ hk⟩)); (case aO => exact (by (with_reducible repeat first | apply k_A | apply k_N | apply k_D); exact Kd.R_mono HO_22.out (fun _ hk => ⟨hk.1.1, ⟨hk.1.2.1, ⟨hk.1.2.2.1, ⟨hk.1.2.2.2, hk.2⟩⟩⟩⟩))); (case aS => exact (below_size (by repeat (first | (with_reducible first | exact HB.out | apply below_alloc | apply pw_below_drewN | apply below_drew1) | exact HB.out)))); (case aL => have := LMc89.out; omega); intro v902 w91 ho hb hg hat; rw [← Ny901.out] at ho; have n0_ := Aside0.mk (Kd.R_after (ok := (fun k_ => some k_ ≠ (.slice Ao61 x15_3.length co61 : Value).ownBlock ∧ some k_ ≠ (.slice (some ad887) x16_3.length co53 : Value).ownBlock ∧ some k_ ≠ (.slice (some ad889) x17_3.length co60 : Value).ownBlock ∧ some k_ ≠ (v899 : Value).ownBlock)) (by (with_reducible repeat first | apply k_A | apply k_N | apply k_D); exact Kd.R_mono HO_11.out (fun _ hk => ⟨⟨hk.1.1, ⟨hk.1.2.1, ⟨hk.1.2.2.1, hk.2⟩⟩⟩, hk.1.2.2.2⟩)) hg hat); have n1_ := Aside0.mk (Kd.R_after (ok := (fun k_ => some k_ ≠ (v869 : Value).ownBlock ∧ some k_ ≠ (.slice (some ad887) x16_3.length co53 : Value).ownBlock ∧ some k_ ≠ (.slice (some ad889) x17_3.length co60 : Value).ownBlock ∧ some k_ ≠ (v899 : Value).ownBlock)) (by (with_reducible repeat first | apply k_A | apply k_N | apply k_D); exact Kd.R_mono HO_15.out (fun _ hk => ⟨⟨hk.1.1, ⟨hk.1.2.1, ⟨hk.1.2.2.1, hk.2⟩⟩⟩, hk.1.2.2.2⟩)) hg hat); have n2_ := Aside0.mk (Kd.R_after (ok := (fun k_ => some k_ ≠ (v869 : Value).ownBlock ∧ some k_ ≠ (.slice Ao61 x15_3.length co61 : Value).ownBlock ∧ some k_ ≠ (.slice (some ad889) x17_3.length co60 : Value).ownBlock ∧ some k_ ≠ (v899 : Value).ownBlock)) (by (with_reducible repeat first | apply k_A | apply k_N | apply k_D); exact Kd.R_mono HO_16.out (fun _ hk => ⟨⟨hk.1.1, ⟨hk.1.2.1, ⟨hk.1.2.2.1, hk.2⟩⟩⟩, hk.1.2.2.2⟩)) hg hat); have n3_ := Aside0.mk (Kd.R_after (ok := (fun k_ => some k_ ≠ (v869 : Value).ownBlock ∧ some k_ ≠ (.slice Ao61 x15_3.length co61 : Value).ownBlock ∧ some k_ ≠ (.slice (some ad887) x16_3.length co53 : Value).ownBlock ∧ some k_ ≠ (v899 : Value).ownBlock)) (by (with_reducible repeat first | apply k_A | apply k_N | apply k_D); exact Kd.R_mono HO_17.out (fun _ hk => ⟨⟨hk.1.1, ⟨hk.1.2.1, ⟨hk.1.2.2.1, hk.2⟩⟩⟩, hk.1.2.2.2⟩)) hg hat); have n4_ := Aside0.mk (blk_grown (g := g0) (o := .cells #[.slice A0_0 l0_0.length c0_0] 44 (0, 0)) (by (with_reducible repeat first | refine b_N ?_ _ | refine b_D ?_ | refine b_A ?_ _); exact BK0.out) hg (Kd.R_ne HO_22.out BK0.out (by decide))); have n5_ := Aside0.mk (Kd.R_after (ok := (fun k_ => some k_ ≠ (v869 : Value).ownBlock ∧ some k_ ≠ (.slice Ao61 x15_3.length co61 : Value).ownBlock ∧ some k_ ≠ (.slice (some ad887) x16_3.length co53 : Value).ownBlock ∧ some k_ ≠ (.slice (some ad889) x17_3.length co60 : Value).ownBlock)) (by (with_reducible repeat first | apply k_A | apply k_N | apply k_D); exact Kd.R_mono HO900.out (fun _ hk => ⟨⟨hk.1, ⟨hk.2.1, ⟨hk.2.2.1, hk.2.2.2.1⟩⟩⟩, hk.2.2.2.2⟩)) hg hat); have n6_ := Aside0.mk (hb); have n7_ := Aside0.mk (ho); clear HO_11; clear HO_15; clear HO_16; clear HO_17; clear BK0; clear HO900; clear HB; clear HO_22; have HO_11 := n0_; have HO_15 := n1_; have HO_16 := n2_; have HO_17 := n3_; have BK0 := n4_; have HO900 := n5_; have HB := n6_; have HO903 := n7_; clear n0_ n1_ n2_ n3_ n4_ n5_ n6_ n7_; clear ho hb hg hat)))
                                  go_roundg kj72
                                  case measure => have := HK1.out; have := HK2.out; have := HK3.out; have := HJ30.out; have := HJ33.out; have := HK6.out; have := HK7.out; have := HJ58.out; have := HJ72.out; omega
                                  case rel => exact ⟨(y898), (y901), (wrap64 (x25_7 + 1)), (by first | rfl | (simp; done) | (simp [*]; done)), H', ⟨by have := HK1.out; have := HK2.out; have := HK3.out; have := HJ30.out; have := HJ33.out; have := HK6.out; have := HK7.out; have := HJ58.out; have := HJ72.out; omega⟩, ⟨by (with_reducible repeat (first | apply Kd.R_alloc | apply Kd.R_drewN | apply Kd.R_drew)); exact Kd.R_mono HO_11.out (fun _ hk => ⟨hk.1.1, ⟨hk.1.2.1, ⟨hk.1.2.2.1, ⟨hk.1.2.2.2, hk.2⟩⟩⟩⟩)⟩, ⟨by (with_reducible repeat (first | apply Kd.R_alloc | apply Kd.R_drewN | apply Kd.R_drew)); exact Kd.R_mono HO_15.out (fun _ hk => ⟨hk.1.1, ⟨hk.1.2.1, ⟨hk.1.2.2.1, ⟨hk.1.2.2.2, hk.2⟩⟩⟩⟩)⟩, ⟨by (with_reducible repeat (first | apply Kd.R_alloc | apply Kd.R_drewN | apply Kd.R_drew)); exact Kd.R_mono HO_16.out (fun _ hk => ⟨hk.1.1, ⟨hk.1.2.1, ⟨hk.1.2.2.1, ⟨hk.1.2.2.2, hk.2⟩⟩⟩⟩)⟩, ⟨by (with_reducible repeat (first | apply Kd.R_alloc | apply Kd.R_drewN | apply Kd.R_drew)); exact Kd.R_mono HO_17.out (fun _ hk => ⟨hk.1.1, ⟨hk.1.2.1, ⟨hk.1.2.2.1, ⟨hk.1.2.2.2, hk.2⟩⟩⟩⟩)⟩, ⟨by (with_reducible repeat (first | apply Kd.R_alloc | apply Kd.R_drewN | apply Kd.R_drew)); exact Kd.R_mono HO900.out (fun _ hk => ⟨hk.1.1, ⟨hk.1.2.1, ⟨hk.1.2.2.1, ⟨hk.1.2.2.2, hk.2⟩⟩⟩⟩)⟩, ⟨by (with_reducible repeat (first | apply Kd.R_alloc | apply Kd.R_drewN | apply Kd.R_drew)); exact HO903.out⟩, ⟨by (with_reducible repeat first | refine b_N ?_ _ | refine b_D ?_ | refine b_A ?_ _); exact BK0.out⟩, ⟨by repeat (first | (with_reducible first | exact HB.out | apply below_alloc | apply pw_below_drewN | apply below_drew1) | exact HB.out)⟩⟩
                                 ·rw [if_neg c89] at H
                                  exact absurd H (by simp)
                                ·rw [if_neg c88] at H
                                 exact absurd H (by simp)
                               ·rw [if_neg c87] at H
                                exact absurd H (by simp)
                              ·rw [if_neg c86] at H
                               exact absurd H (by simp)
                        ·rw [if_neg c58] at H
                         exact absurd H (by simp)
                       ·rw [if_neg c57] at H
                        have c57b0 : decide (x25_7 ≤ t888) = false := decide_eq_false c57
                        clear c57
                        have H' := Aside0.mk H
                        clear H
                        have p887 : 0 ≤ (x24_6 : Int) := of_decide_eq_true (by first | (with_reducible assumption) | assumption)
                        have q887 : x24_6 < (x16_3.length : Int) := of_decide_eq_true (by first | (with_reducible assumption) | assumption)
                        obtain ⟨ad887, e887, hx887_0⟩ := Kd.at_int (Kd.R_reads' HO_16.out).2.2 x24_6 p887 q887
                        cases e887
                        replace p887 := eq_true p887
                        replace q887 := eq_true q887
                        go_wp2_with (first | (go_at_call 133; (with_reducible refine (spec_l00Min.calls 1 (rd x16_3 x24_6) t888 _ A56.out).mono ?_); rintro e w' ⟨rfl, ⟨nd, rfl⟩⟩; (try first | exact ⟨rfl, _, World.drewN_drewN _ _ _⟩ | exact ⟨rfl, _, Eq.trans (World.drewN_drewN _ _ _) (congrArg (World.drewN _) (Nat.add_assoc _ _ _))⟩)))
                        repeat (go_quiet (first | (go_at_call 133; (with_reducible refine (spec_l00Min.calls 1 (rd x16_3 x24_6) t888 _ A56.out).mono ?_); rintro e w' ⟨rfl, ⟨nd, rfl⟩⟩; (try first | exact ⟨rfl, _, World.drewN_drewN _ _ _⟩ | exact ⟨rfl, _, Eq.trans (World.drewN_drewN _ _ _) (congrArg (World.drewN _) (Nat.add_assoc _ _ _))⟩))); try go_wp2_with (first | (go_at_call 133; (with_reducible refine (spec_l00Min.calls 1 (rd x16_3 x24_6) t888 _ A56.out).mono ?_); rintro e w' ⟨rfl, ⟨nd, rfl⟩⟩; (try first | exact ⟨rfl, _, World.drewN_drewN _ _ _⟩ | exact ⟨rfl, _, Eq.trans (World.drewN_drewN _ _ _) (congrArg (World.drewN _) (Nat.add_assoc _ _ _))⟩))))
                        go_roundg k7
                        case measure => have := HK1.out; have := HK2.out; have := HK3.out; have := HJ30.out; have := HJ33.out; have := HK6.out; have := HK7.out; omega
                        case rel => exact ⟨(x21_7), (x22_7), (wrap64 (x24_6 + 1)), (by first | rfl | (simp; done) | (simp [*]; done)), H', ⟨by have := HK1.out; have := HK2.out; have := HK3.out; have := HJ30.out; have := HJ33.out; have := HK6.out; have := HK7.out; omega⟩, ⟨by (with_reducible repeat (first | apply Kd.R_alloc | apply Kd.R_drewN | apply Kd.R_drew)); exact HO_11.out⟩, ⟨by (with_reducible repeat (first | apply Kd.R_alloc | apply Kd.R_drewN | apply Kd.R_drew)); exact HO_15.out⟩, ⟨by (with_reducible repeat (first | apply Kd.R_alloc | apply Kd.R_drewN | apply Kd.R_drew)); exact HO_16.out⟩, ⟨by (with_reducible repeat (first | apply Kd.R_alloc | apply Kd.R_drewN | apply Kd.R_drew)); exact HO_17.out⟩, ⟨by (with_reducible repeat (first | apply Kd.R_alloc | apply Kd.R_drewN | apply Kd.R_drew)); exact HO_21.out⟩, ⟨by (with_reducible repeat (first | apply Kd.R_alloc | apply Kd.R_drewN | apply Kd.R_drew)); exact HO_22.out⟩, ⟨by (with_reducible repeat first | refine b_N ?_ _ | refine b_D ?_ | refine b_A ?_ _); exact BK0.out⟩, ⟨by repeat (first | (with_reducible first | exact HB.out | apply below_alloc | apply pw_below_drewN | apply below_drew1) | exact HB.out)⟩⟩
                      ·rw [if_neg c55] at H
                       exact absurd H (by simp)
                     ·rw [if_neg c54] at H
                      exact absurd H (by simp)
                  ·rw [if_neg c52] at H
                   have c52b0 : decide (x24_6 < (x16_3.length : Int)) = false := decide_eq_false c52
                   clear c52
                   by_cases c92 : (x21_6.length : Int) > 0
                   ·rw [if_pos c92] at H
                    have c92b0 : decide (0 < (x21_6.length : Int)) = true := decide_eq_true c92
                    have c92b1 : decide (0 < x21_6.length) = true := decide_eq_true (by omega)
                    clear c92
                    obtain ⟨ji93, hji93⟩ : ∃ j_ : Int, (IntKind.u64.wrap (x20_3)) = j_ := ⟨_, rfl⟩
                    obtain rfl : ji93 = ji45 := hji93.symm.trans hji45
                    replace H : (if 0 ≤ (ji93) then (if x15_3.length < 17592186044416 then (spec_l10Follow.l2 k6 a2 (l0_0.length : Int) t868 x12_1 (x15_3 ++ [x20_3]) x21_6 x22_6 (Go.bits .or .i64 x18_3 (shl .i64 1 (ji93))) true (wrap64 (x20_3 + 1)) l0_0) else (none)) else (none)) = some (r1, r2) := by first | (rw [hji93] at H; exact H) | (simp only [hji93] at H ⊢; exact H)
                    by_cases c94 : 0 ≤ (ji93)
                    ·rw [if_pos c94] at H
                     have c94b0 := eq_true c94
                     have c94b1 : decide (0 ≤ (ji93)) = true := decide_eq_true c94
                     clear c94
                     obtain ⟨ji95, hji95⟩ : ∃ j_ : Int, (shl .i64 1 (ji93)) = j_ := ⟨_, rfl⟩
                     obtain rfl : ji95 = ji47 := hji95.symm.trans hji47
                     replace H : (if x15_3.length < 17592186044416 then (spec_l10Follow.l2 k6 a2 (l0_0.length : Int) t868 x12_1 (x15_3 ++ [x20_3]) x21_6 x22_6 (Go.bits .or .i64 x18_3 (ji95)) true (wrap64 (x20_3 + 1)) l0_0) else (none)) = some (r1, r2) := by first | (rw [hji95] at H; exact H) | (simp only [hji95] at H ⊢; exact H)
                     have hji95_ : (IntKind.i64.wrap (1 * 2 ^ min (ji93).toNat 64)) = ji95 := hji95
                     have hji95z : (ji93) ≤ 64 → (IntKind.i64.wrap (1 * 2 ^ (ji93).toNat)) = ji95 := shl_small hji95
                     have hji95u : (IntKind.i64.wrap (2 ^ min (ji93).toNat 64)) = ji95 := by have h_ := hji95_; rw [Int.one_mul] at h_; exact h_
                     have hji95v : (ji93) ≤ 64 → (IntKind.i64.wrap (2 ^ (ji93).toNat)) = ji95 := fun hle_ => by have h_ := hji95z hle_; rw [Int.one_mul] at h_; exact h_
                     have hji95y : (wrap64 (1 * 2 ^ min (ji93).toNat 64)) = ji95 := (i64_w _).symm.trans hji95_
                     have hji95x : (ji93) ≤ 64 → (wrap64 (1 * 2 ^ (ji93).toNat)) = ji95 := fun h_ => (i64_w _).symm.trans (hji95z h_)
                     by_cases c96 : x15_3.length < 17592186044416
                     ·rw [if_pos c96] at H
                      have LMc96 := Aside0.mk c96
                      clear c96
                      obtain ⟨y904, hy904⟩ : ∃ y_ : List Int, y_ = (x15_3 ++ [x20_3]) := ⟨_, rfl⟩
                      replace H : (spec_l10Follow.l2 k6 a2 (l0_0.length : Int) t868 x12_1 y904 x21_6 x22_6 (Go.bits .or .i64 x18_3 (ji95)) true (wrap64 (x20_3 + 1)) l0_0) = some (r1, r2) := by first | (rw [hy904]; with_reducible exact H) | (have H2_ := (Option.bind_some _ _).symm.trans H; rw [hy904]; with_reducible exact H2_) | (have H2_ := (Option.bind_some _ _).symm.trans H; with_reducible exact H2_) | with_reducible exact H | (rw [hy904]; exact H) | exact H
                      have Ny904 := Aside0.mk hy904
                      clear hy904
                      have H' := Aside0.mk H
                      clear H
                      obtain ⟨Ao97, co97, eo97⟩ := Kd.R_slice HO_16.out
                      subst eo97
                      obtain ⟨Ao98, co98, eo98⟩ := Kd.R_slice HO_21.out
                      subst eo98
                      go_wp2_with (first | ((with_reducible refine gate_builtin (b := .append) (xs := #[.tmp 214, .tmp 216]) rfl ?_); (try (refine gate_guard (by rfl) ?_; dsimp only)); at_builtin; refine Kd.R_append (Kd.int .i64) (w0 := w) w.heap.size rfl (.tmp 214) (.tmp 216) 28 2 (.int .i64 0) 8 rfl Try.underlying28 info2 rfl (by decide) (by omega) u15 x15_3 x20_3 [.int .i64 x20_3] (fun k_ => some k_ ≠ (v869 : Value).ownBlock ∧ some k_ ≠ (.slice Ao97 x16_3.length co97 : Value).ownBlock ∧ some k_ ≠ (u17 : Value).ownBlock ∧ some k_ ≠ (.slice Ao98 x21_6.length co98 : Value).ownBlock ∧ some k_ ≠ (u22 : Value).ownBlock) (fun _ => False) rfl rfl ?aP (fun _ hk => hk.elim) ?aF ?aO ?aB ?aS ?aL ?_; (case aP => exact rfl); (case aB => exact (by repeat (first | (with_reducible first | exact HB.out | apply below_alloc | apply pw_below_drewN | apply below_drew1) | exact HB.out))); (case aF => exact (fun k_ hk => ⟨Kd.fresh' (Kd.R_lt (by (with_reducible repeat first | apply k_A | apply k_N | apply k_D); exact HO_11.out)) k_ hk, Kd.fresh' (Kd.R_lt (by (with_reducible repeat first | apply k_A | apply k_N | apply k_D); exact HO_16.out)) k_ hk, Kd.fresh' (Kd.R_lt (by (with_reducible repeat first | apply k_A | apply k_N | apply k_D); exact HO_17.out)) k_ hk, Kd.fresh' (Kd.R_lt (by (with_reducible repeat first | apply k_A | apply k_N | apply k_D); exact HO_21.out)) k_ hk, Kd.fresh' (Kd.R_lt (by (with_reducible repeat first | apply k_A | apply k_N | apply k_D); exact HO_22.out)) k_ hk⟩)); (case aO => exact (by (with_reducible repeat first | apply k_A | apply k_N | apply k_D); exact HO_15.out)); (case aS => exact (below_size (by repeat (first | (with_reducible first | exact HB.out | apply below_alloc | apply pw_below_drewN | apply below_drew1) | exact HB.out)))); (case aL => have := LMc96.out; omega); intro v905 w99 ho hb hg hat; rw [← Ny904.out] at ho; have n0_ := Aside0.mk (Kd.R_after (ok := (fun k_ => some k_ ≠ (.slice Ao97 x16_3.length co97 : Value).ownBlock ∧ some k_ ≠ (u17 : Value).ownBlock ∧ some k_ ≠ (.slice Ao98 x21_6.length co98 : Value).ownBlock ∧ some k_ ≠ (u22 : Value).ownBlock)) (by (with_reducible repeat first | apply k_A | apply k_N | apply k_D); exact Kd.R_mono HO_11.out (fun _ hk => ⟨⟨hk.2.1, ⟨hk.2.2.1, ⟨hk.2.2.2.1, hk.2.2.2.2⟩⟩⟩, hk.1⟩)) hg hat); have n1_ := Aside0.mk (Kd.R_after (ok := (fun k_ => some k_ ≠ (v869 : Value).ownBlock ∧ some k_ ≠ (u17 : Value).ownBlock ∧ some k_ ≠ (.slice Ao98 x21_6.length co98 : Value).ownBlock ∧ some k_ ≠ (u22 : Value).ownBlock)) (by (with_reducible repeat first | apply k_A | apply k_N | apply k_D); exact Kd.R_mono HO_16.out (fun _ hk => ⟨⟨hk.1, ⟨hk.2.2.1, ⟨hk.2.2.2.1, hk.2.2.2.2⟩⟩⟩, hk.2.1⟩)) hg hat); have n2_ := Aside0.mk (Kd.R_after (ok := (fun k_ => some k_ ≠ (v869 : Value).ownBlock ∧ some k_ ≠ (.slice Ao97 x16_3.length co97 : Value).ownBlock ∧ some k_ ≠ (.slice Ao98 x21_6.length co98 : Value).ownBlock ∧ some k_ ≠ (u22 : Value).ownBlock)) (by (with_reducible repeat first | apply k_A | apply k_N | apply k_D); exact Kd.R_mono HO_17.out (fun _ hk => ⟨⟨hk.1, ⟨hk.2.2.1, ⟨hk.2.2.2.1, hk.2.2.2.2⟩⟩⟩, hk.2.1⟩)) hg hat); have n3_ := Aside0.mk (Kd.R_after (ok := (fun k_ => some k_ ≠ (v869 : Value).ownBlock ∧ some k_ ≠ (.slice Ao97 x16_3.length co97 : Value).ownBlock ∧ some k_ ≠ (u17 : Value).ownBlock ∧ some k_ ≠ (u22 : Value).ownBlock)) (by (with_reducible repeat first | apply k_A | apply k_N | apply k_D); exact Kd.R_mono HO_21.out (fun _ hk => ⟨⟨hk.1, ⟨hk.2.2.1, ⟨hk.2.2.2.1, hk.2.2.2.2⟩⟩⟩, hk.2.1⟩)) hg hat); have n4_ := Aside0.mk (Kd.R_after (ok := (fun k_ => some k_ ≠ (v869 : Value).ownBlock ∧ some k_ ≠ (.slice Ao97 x16_3.length co97 : Value).ownBlock ∧ some k_ ≠ (u17 : Value).ownBlock ∧ some k_ ≠ (.slice Ao98 x21_6.length co98 : Value).ownBlock)) (by (with_reducible repeat first | apply k_A | apply k_N | apply k_D); exact Kd.R_mono HO_22.out (fun _ hk => ⟨⟨hk.1, ⟨hk.2.2.1, ⟨hk.2.2.2.1, hk.2.2.2.2⟩⟩⟩, hk.2.1⟩)) hg hat); have n5_ := Aside0.mk (blk_grown (g := g0) (o := .cells #[.slice A0_0 l0_0.length c0_0] 44 (0, 0)) (by (with_reducible repeat first | refine b_N ?_ _ | refine b_D ?_ | refine b_A ?_ _); exact BK0.out) hg (Kd.R_ne HO_15.out BK0.out (by decide))); have n6_ := Aside0.mk (hb); have n7_ := Aside0.mk (ho); clear HO_11; clear HO_16; clear HO_17; clear HO_21; clear HO_22; clear BK0; clear HB; clear HO_15; have HO_11 := n0_; have HO_16 := n1_; have HO_17 := n2_; have HO_21 := n3_; have HO_22 := n4_; have BK0 := n5_; have HB := n6_; have HO906 := n7_; clear n0_ n1_ n2_ n3_ n4_ n5_ n6_ n7_; clear ho hb hg hat))
                      repeat (go_quiet (first | ((with_reducible refine gate_builtin (b := .append) (xs := #[.tmp 214, .tmp 216]) rfl ?_); (try (refine gate_guard (by rfl) ?_; dsimp only)); at_builtin; refine Kd.R_append (Kd.int .i64) (w0 := w) w.heap.size rfl (.tmp 214) (.tmp 216) 28 2 (.int .i64 0) 8 rfl Try.underlying28 info2 rfl (by decide) (by omega) u15 x15_3 x20_3 [.int .i64 x20_3] (fun k_ => some k_ ≠ (v869 : Value).ownBlock ∧ some k_ ≠ (.slice Ao97 x16_3.length co97 : Value).ownBlock ∧ some k_ ≠ (u17 : Value).ownBlock ∧ some k_ ≠ (.slice Ao98 x21_6.length co98 : Value).ownBlock ∧ some k_ ≠ (u22 : Value).ownBlock) (fun _ => False) rfl rfl ?aP (fun _ hk => hk.elim) ?aF ?aO ?aB ?aS ?aL ?_; (case aP => exact rfl); (case aB => exact (by repeat (first | (with_reducible first | exact HB.out | apply below_alloc | apply pw_below_drewN | apply below_drew1) | exact HB.out))); (case aF => exact (fun k_ hk => ⟨Kd.fresh' (Kd.R_lt (by (with_reducible repeat first | apply k_A | apply k_N | apply k_D); exact HO_11.out)) k_ hk, Kd.fresh' (Kd.R_lt (by (with_reducible repeat first | apply k_A | apply k_N | apply k_D); exact HO_16.out)) k_ hk, Kd.fresh' (Kd.R_lt (by (with_reducible repeat first | apply k_A | apply k_N | apply k_D); exact HO_17.out)) k_ hk, Kd.fresh' (Kd.R_lt (by (with_reducible repeat first | apply k_A | apply k_N | apply k_D); exact HO_21.out)) k_ hk, Kd.fresh' (Kd.R_lt (by (with_reducible repeat first | apply k_A | apply k_N | apply k_D); exact HO_22.out)) k_ hk⟩)); (case aO => exact (by (with_reducible repeat first | apply k_A | apply k_N | apply k_D); exact HO_15.out)); (case aS => exact (below_size (by repeat (first | (with_reducible first | exact HB.out | apply below_alloc | apply pw_below_drewN | apply below_drew1) | exact HB.out)))); (case aL => have := LMc96.out; omega); intro v905 w99 ho hb hg hat; rw [← Ny904.out] at ho; have n0_ := Aside0.mk (Kd.R_after (ok := (fun k_ => some k_ ≠ (.slice Ao97 x16_3.length co97 : Value).ownBlock ∧ some k_ ≠ (u17 : Value).ownBlock ∧ some k_ ≠ (.slice Ao98 x21_6.length co98 : Value).ownBlock ∧ some k_ ≠ (u22 : Value).ownBlock)) (by (with_reducible repeat first | apply k_A | apply k_N | apply k_D); exact Kd.R_mono HO_11.out (fun _ hk => ⟨⟨hk.2.1, ⟨hk.2.2.1, ⟨hk.2.2.2.1, hk.2.2.2.2⟩⟩⟩, hk.1⟩)) hg hat); have n1_ := Aside0.mk (Kd.R_after (ok := (fun k_ => some k_ ≠ (v869 : Value).ownBlock ∧ some k_ ≠ (u17 : Value).ownBlock ∧ some k_ ≠ (.slice Ao98 x21_6.length co98 : Value).ownBlock ∧ some k_ ≠ (u22 : Value).ownBlock)) (by (with_reducible repeat first | apply k_A | apply k_N | apply k_D); exact Kd.R_mono HO_16.out (fun _ hk => ⟨⟨hk.1, ⟨hk.2.2.1, ⟨hk.2.2.2.1, hk.2.2.2.2⟩⟩⟩, hk.2.1⟩)) hg hat); have n2_ := Aside0.mk (Kd.R_after (ok := (fun k_ => some k_ ≠ (v869 : Value).ownBlock ∧ some k_ ≠ (.slice Ao97 x16_3.length co97 : Value).ownBlock ∧ some k_ ≠ (.slice Ao98 x21_6.length co98 : Value).ownBlock ∧ some k_ ≠ (u22 : Value).ownBlock)) (by (with_reducible repeat first | apply k_A | apply k_N | apply k_D); exact Kd.R_mono HO_17.out (fun _ hk => ⟨⟨hk.1, ⟨hk.2.2.1, ⟨hk.2.2.2.1, hk.2.2.2.2⟩⟩⟩, hk.2.1⟩)) hg hat); have n3_ := Aside0.mk (Kd.R_after (ok := (fun k_ => some k_ ≠ (v869 : Value).ownBlock ∧ some k_ ≠ (.slice Ao97 x16_3.length co97 : Value).ownBlock ∧ some k_ ≠ (u17 : Value).ownBlock ∧ some k_ ≠ (u22 : Value).ownBlock)) (by (with_reducible repeat first | apply k_A | apply k_N | apply k_D); exact Kd.R_mono HO_21.out (fun _ hk => ⟨⟨hk.1, ⟨hk.2.2.1, ⟨hk.2.2.2.1, hk.2.2.2.2⟩⟩⟩, hk.2.1⟩)) hg hat); have n4_ := Aside0.mk (Kd.R_after (ok := (fun k_ => some k_ ≠ (v869 : Value).ownBlock ∧ some k_ ≠ (.slice Ao97 x16_3.length co97 : Value).ownBlock ∧ some k_ ≠ (u17 : Value).ownBlock ∧ some k_ ≠ (.slice Ao98 x21_6.length co98 : Value).ownBlock)) (by (with_reducible repeat first | apply k_A | apply k_N | apply k_D); exact Kd.R_mono HO_22.out (fun _ hk => ⟨⟨hk.1, ⟨hk.2.2.1, ⟨hk.2.2.2.1, hk.2.2.2.2⟩⟩⟩, hk.2.1⟩)) hg hat); have n5_ := Aside0.mk (blk_grown (g := g0) (o := .cells #[.slice A0_0 l0_0.length c0_0] 44 (0, 0)) (by (with_reducible repeat first | refine b_N ?_ _ | refine b_D ?_ | refine b_A ?_ _); exact BK0.out) hg (Kd.R_ne HO_15.out BK0.out (by decide))); have n6_ := Aside0.mk (hb); have n7_ := Aside0.mk (ho); clear HO_11; clear HO_16; clear HO_17; clear HO_21; clear HO_22; clear BK0; clear HB; clear HO_15; have HO_11 := n0_; have HO_16 := n1_; have HO_17 := n2_; have HO_21 := n3_; have HO_22 := n4_; have BK0 := n5_; have HB := n6_; have HO906 := n7_; clear n0_ n1_ n2_ n3_ n4_ n5_ n6_ n7_; clear ho hb hg hat)); try go_wp2_with (first | ((with_reducible refine gate_builtin (b := .append) (xs := #[.tmp 214, .tmp 216]) rfl ?_); (try (refine gate_guard (by rfl) ?_; dsimp only)); at_builtin; refine Kd.R_append (Kd.int .i64) (w0 := w) w.heap.size rfl (.tmp 214) (.tmp 216) 28 2 (.int .i64 0) 8 rfl Try.underlying28 info2 rfl (by decide) (by omega) u15 x15_3 x20_3 [.int .i64 x20_3] (fun k_ => some k_ ≠ (v869 : Value).ownBlock ∧ some k_ ≠ (.slice Ao97 x16_3.length co97 : Value).ownBlock ∧ some k_ ≠ (u17 : Value).ownBlock ∧ some k_ ≠ (.slice Ao98 x21_6.length co98 : Value).ownBlock ∧ some k_ ≠ (u22 : Value).ownBlock) (fun _ => False) rfl rfl ?aP (fun _ hk => hk.elim) ?aF ?aO ?aB ?aS ?aL ?_; (case aP => exact rfl); (case aB => exact (by repeat (first | (with_reducible first | exact HB.out | apply below_alloc | apply pw_below_drewN | apply below_drew1) | exact HB.out))); (case aF => exact (fun k_ hk => ⟨Kd.fresh' (Kd.R_lt (by (with_reducible repeat first | apply k_A | apply k_N | apply k_D); exact HO_11.out)) k_ hk, Kd.fresh' (Kd.R_lt (by (with_reducible repeat first | apply k_A | apply k_N | apply k_D); exact HO_16.out)) k_ hk, Kd.fresh' (Kd.R_lt (by (with_reducible repeat first | apply k_A | apply k_N | apply k_D); exact HO_17.out)) k_ hk, Kd.fresh' (Kd.R_lt (by (with_reducible repeat first | apply k_A | apply k_N | apply k_D); exact HO_21.out)) k_ hk, Kd.fresh' (Kd.R_lt (by (with_reducible repeat first | apply k_A | apply k_N | apply k_D); exact HO_22.out)) k_ hk⟩)); (case aO => exact (by (with_reducible repeat first | apply k_A | apply k_N | apply k_D); exact HO_15.out)); (case aS => exact (below_size (by repeat (first | (with_reducible first | exact HB.out | apply below_alloc | apply pw_below_drewN | apply below_drew1) | exact HB.out)))); (case aL => have := LMc96.out; omega); intro v905 w99 ho hb hg hat; rw [← Ny904.out] at ho; have n0_ := Aside0.mk (Kd.R_after (ok := (fun k_ => some k_ ≠ (.slice Ao97 x16_3.length co97 : Value).ownBlock ∧ some k_ ≠ (u17 : Value).ownBlock ∧ some k_ ≠ (.slice Ao98 x21_6.length co98 : Value).ownBlock ∧ some k_ ≠ (u22 : Value).ownBlock)) (by (with_reducible repeat first | apply k_A | apply k_N | apply k_D); exact Kd.R_mono HO_11.out (fun _ hk => ⟨⟨hk.2.1, ⟨hk.2.2.1, ⟨hk.2.2.2.1, hk.2.2.2.2⟩⟩⟩, hk.1⟩)) hg hat); have n1_ := Aside0.mk (Kd.R_after (ok := (fun k_ => some k_ ≠ (v869 : Value).ownBlock ∧ some k_ ≠ (u17 : Value).ownBlock ∧ some k_ ≠ (.slice Ao98 x21_6.length co98 : Value).ownBlock ∧ some k_ ≠ (u22 : Value).ownBlock)) (by (with_reducible repeat first | apply k_A | apply k_N | apply k_D); exact Kd.R_mono HO_16.out (fun _ hk => ⟨⟨hk.1, ⟨hk.2.2.1, ⟨hk.2.2.2.1, hk.2.2.2.2⟩⟩⟩, hk.2.1⟩)) hg hat); have n2_ := Aside0.mk (Kd.R_after (ok := (fun k_ => some k_ ≠ (v869 : Value).ownBlock ∧ some k_ ≠ (.slice Ao97 x16_3.length co97 : Value).ownBlock ∧ some k_ ≠ (.slice Ao98 x21_6.length co98 : Value).ownBlock ∧ some k_ ≠ (u22 : Value).ownBlock)) (by (with_reducible repeat first | apply k_A | apply k_N | apply k_D); exact Kd.R_mono HO_17.out (fun _ hk => ⟨⟨hk.1, ⟨hk.2.2.1, ⟨hk.2.2.2.1, hk.2.2.2.2⟩⟩⟩, hk.2.1⟩)) hg hat); have n3_ := Aside0.mk (Kd.R_after (ok := (fun k_ => some k_ ≠ (v869 : Value).ownBlock ∧ some k_ ≠ (.slice Ao97 x16_3.length co97 : Value).ownBlock ∧ some k_ ≠ (u17 : Value).ownBlock ∧ some k_ ≠ (u22 : Value).ownBlock)) (by (with_reducible repeat first | apply k_A | apply k_N | apply k_D); exact Kd.R_mono HO_21.out (fun _ hk => ⟨⟨hk.1, ⟨hk.2.2.1, ⟨hk.2.2.2.1, hk.2.2.2.2⟩⟩⟩, hk.2.1⟩)) hg hat); have n4_ := Aside0.mk (Kd.R_after (ok := (fun k_ => some k_ ≠ (v869 : Value).ownBlock ∧ some k_ ≠ (.slice Ao97 x16_3.length co97 : Value).ownBlock ∧ some k_ ≠ (u17 : Value).ownBlock ∧ some k_ ≠ (.slice Ao98 x21_6.length co98 : Value).ownBlock)) (by (with_reducible repeat first | apply k_A | apply k_N | apply k_D); exact Kd.R_mono HO_22.out (fun _ hk => ⟨⟨hk.1, ⟨hk.2.2.1, ⟨hk.2.2.2.1, hk.2.2.2.2⟩⟩⟩, hk.2.1⟩)) hg hat); have n5_ := Aside0.mk (blk_grown (g := g0) (o := .cells #[.slice A0_0 l0_0.length c0_0] 44 (0, 0)) (by (with_reducible repeat first | refine b_N ?_ _ | refine b_D ?_ | refine b_A ?_ _); exact BK0.out) hg (Kd.R_ne HO_15.out BK0.out (by decide))); have n6_ := Aside0.mk (hb); have n7_ := Aside0.mk (ho); clear HO_11; clear HO_16; clear HO_17; clear HO_21; clear HO_22; clear BK0; clear HB; clear HO_15; have HO_11 := n0_; have HO_16 := n1_; have HO_17 := n2_; have HO_21 := n3_; have HO_22 := n4_; have BK0 := n5_; have HB := n6_; have HO906 := n7_; clear n0_ n1_ n2_ n3_ n4_ n5_ n6_ n7_; clear ho hb hg hat)))
                      go_roundg k6
                      case measure => have := HK1.out; have := HK2.out; have := HK3.out; have := HJ30.out; have := HJ33.out; have := HK6.out; omega
                      case rel => exact ⟨(y904), (x21_6), (x22_6), (Go.bits .or .i64 x18_3 (ji95)), (true), (wrap64 (x20_3 + 1)), (by first | rfl | (simp; done) | (simp only [← hji95] <;> (first | rfl | simp)) | (simp [*]; done)), (by first | rfl | (simp; done) | (simp [*]; done)), (by first | rfl | (simp; done) | (simp [*]; done)), H', ⟨by have := HK1.out; have := HK2.out; have := HK3.out; have := HJ30.out; have := HJ33.out; have := HK6.out; omega⟩, ⟨by (with_reducible repeat (first | apply Kd.R_alloc | apply Kd.R_drewN | apply Kd.R_drew)); exact Kd.R_mono HO_11.out (fun _ hk => ⟨hk.2, ⟨hk.1.2.2.1, hk.1.2.2.2⟩⟩)⟩, ⟨by (with_reducible repeat (first | apply Kd.R_alloc | apply Kd.R_drewN | apply Kd.R_drew)); exact Kd.R_mono HO906.out (fun _ hk => ⟨hk.1, ⟨hk.2.2.2.1, hk.2.2.2.2⟩⟩)⟩, ⟨by (with_reducible repeat (first | apply Kd.R_alloc | apply Kd.R_drewN | apply Kd.R_drew)); exact Kd.R_mono HO_21.out (fun _ hk => ⟨hk.1.1, ⟨hk.2, hk.1.2.2.2⟩⟩)⟩, ⟨by (with_reducible repeat (first | apply Kd.R_alloc | apply Kd.R_drewN | apply Kd.R_drew)); exact Kd.R_mono HO_22.out (fun _ hk => ⟨hk.1.1, ⟨hk.2, hk.1.2.2.2⟩⟩)⟩, ⟨by (with_reducible repeat first | refine b_N ?_ _ | refine b_D ?_ | refine b_A ?_ _); exact BK0.out⟩, ⟨by repeat (first | (with_reducible first | exact HB.out | apply below_alloc | apply pw_below_drewN | apply below_drew1) | exact HB.out)⟩⟩
                     ·rw [if_neg c96] at H
                      exact absurd H (by simp)
                    ·rw [if_neg c94] at H
                     exact absurd H (by simp)
                   ·rw [if_neg c92] at H
                    have c92b0 : decide (0 < (x21_6.length : Int)) = false := decide_eq_false c92
                    have c92b1 : decide (0 < x21_6.length) = false := decide_eq_false (by omega)
                    clear c92
                    have H' := Aside0.mk H
                    clear H
                    obtain ⟨Ao100, co100, eo100⟩ := Kd.R_slice HO_16.out
                    subst eo100
                    obtain ⟨Ao101, co101, eo101⟩ := Kd.R_slice HO_21.out
                    subst eo101
                    go_wp2
                    repeat (go_quiet (fail); try go_wp2)
                    go_roundg k6
                    case measure => have := HK1.out; have := HK2.out; have := HK3.out; have := HJ30.out; have := HJ33.out; have := HK6.out; omega
                    case rel => exact ⟨(x15_3), (x16_3), (x17_3), (x18_3), (x19_3), (wrap64 (x20_3 + 1)), (by first | rfl | (simp; done) | (simp [*]; done)), (by first | rfl | (simp; done) | (simp [*]; done)), (by first | rfl | (simp; done) | (simp [*]; done)), H', ⟨by have := HK1.out; have := HK2.out; have := HK3.out; have := HJ30.out; have := HJ33.out; have := HK6.out; omega⟩, ⟨by (with_reducible repeat (first | apply Kd.R_alloc | apply Kd.R_drewN | apply Kd.R_drew)); exact Kd.R_mono HO_11.out (fun _ hk => ⟨hk.1, ⟨hk.2.1, hk.2.2.1⟩⟩)⟩, ⟨by (with_reducible repeat (first | apply Kd.R_alloc | apply Kd.R_drewN | apply Kd.R_drew)); exact Kd.R_mono HO_15.out (fun _ hk => ⟨hk.1, ⟨hk.2.1, hk.2.2.1⟩⟩)⟩, ⟨by (with_reducible repeat (first | apply Kd.R_alloc | apply Kd.R_drewN | apply Kd.R_drew)); exact Kd.R_mono HO_16.out (fun _ hk => ⟨hk.1, ⟨hk.2.1, hk.2.2.1⟩⟩)⟩, ⟨by (with_reducible repeat (first | apply Kd.R_alloc | apply Kd.R_drewN | apply Kd.R_drew)); exact Kd.R_mono HO_17.out (fun _ hk => ⟨hk.1, ⟨hk.2.1, hk.2.2.1⟩⟩)⟩, ⟨by (with_reducible repeat first | refine b_N ?_ _ | refine b_D ?_ | refine b_A ?_ _); exact BK0.out⟩, ⟨by repeat (first | (with_reducible first | exact HB.out | apply below_alloc | apply pw_below_drewN | apply below_drew1) | exact HB.out)⟩⟩
               ·rw [if_neg c46] at H
                exact absurd H (by simp)
           ·replace c33 := Bool.eq_false_iff.mpr c33
            subst c33
            have H1 : (spec_l10Follow.l1 kj30 a2 (l0_0.length : Int) t868 x12_1 x15_3 x16_3 x17_3 x18_3 l0_0) = some (r1, r2) := by rw [if_neg (show ¬ (false = true) by decide)] at H; exact H
            clear H
            have H := H1
            clear H1
            have H' := Aside0.mk H
            clear H
            go_wp2
            repeat (go_quiet (fail); try go_wp2)
            go_roundg kj30
            case measure => have := HK1.out; have := HK2.out; have := HK3.out; have := HJ30.out; omega
            case rel => exact ⟨(x15_3), (x16_3), (x17_3), (x18_3), (by first | rfl | (simp; done) | (simp [*]; done)), H', ⟨by have := HK1.out; have := HK2.out; have := HK3.out; have := HJ30.out; omega⟩, ⟨by (with_reducible repeat (first | apply Kd.R_alloc | apply Kd.R_drewN | apply Kd.R_drew)); exact HO_11.out⟩, ⟨by (with_reducible repeat (first | apply Kd.R_alloc | apply Kd.R_drewN | apply Kd.R_drew)); exact HO_15.out⟩, ⟨by (with_reducible repeat (first | apply Kd.R_alloc | apply Kd.R_drewN | apply Kd.R_drew)); exact HO_16.out⟩, ⟨by (with_reducible repeat (first | apply Kd.R_alloc | apply Kd.R_drewN | apply Kd.R_drew)); exact HO_17.out⟩, ⟨by (with_reducible repeat first | refine b_N ?_ _ | refine b_D ?_ | refine b_A ?_ _); exact BK0.out⟩, ⟨by repeat (first | (with_reducible first | exact HB.out | apply below_alloc | apply pw_below_drewN | apply below_drew1) | exact HB.out)⟩⟩
      ·rw [if_neg c29] at H
       have c29b0 : decide ((x15_2.length : Int) < (l0_0.length : Int)) = false := decide_eq_false c29
       have c29b1 : decide (x15_2.length < l0_0.length) = false := decide_eq_false (fun h => c29 (Int.ofNat_lt.mpr h))
       clear c29
       simp only [Option.some.injEq, Prod.mk.injEq] at H
       obtain ⟨rfl, rfl⟩ := H
       obtain ⟨Ao102, co102, eo102⟩ := Kd.R_slice HO_15.out
       subst eo102
       go_wp2
       repeat (go_quiet (fail); try go_wp2)
       go_ret2
       exact ⟨_, by first | rfl | (simp [errW_none, errW_some] <;> rfl) | (simp [*, errW_none, errW_some] <;> rfl), by (with_reducible repeat (first | apply Kd.R_alloc | apply Kd.R_drewN | apply Kd.R_drew)); exact Kd.R_mono HO_15.out (fun _ hk => trivial), by repeat (first | (with_reducible first | exact HB.out | apply below_alloc | apply pw_below_drewN | apply below_drew1) | exact HB.out)⟩
end Go.Proofs.Ytaapbnhggfmlpaa.P
end
