-- Printed by wip/xprint.py of this repo, which runs the kit's print.py with hand-proved contracts beside it. Not trusted: Lean checks it.
import Derived.Test.YtaapbnhggfmlpaaPx0
import Derived.Test.YtaapbnhggfmlpaaPxf101
namespace Go.Proofs.Ytaapbnhggfmlpaa.P
open Go.RowKit Go.Proofs.YtaapbnhggfmlpaaW.PrintWords Go.Proofs.YtaapbnhggfmlpaaW.PrintLast Go.Proofs.YtaapbnhggfmlpaaW.PrintMore
attribute [local go_sem] max2_int min2_int max_two min_two max_three min_three max_four min_four   -- for this text's walks alone
set_option linter.unusedVariables false
set_option linter.unusedSimpArgs false

/-! ### spec_l10Is: function 74 -/
mutual
def spec_l10Is.l0 : Nat → Int → Int → List (List Int) → Option (Bool)
 | 0, _, _, _ => none
 | k + 1, x3, x4, x1000 => if x4 < x3 then (if 0 ≤ x4 then (if x4 < (x1000.length : Int) then (if ((rd_Ls2 x1000 x4).length : Int) = x3 then (spec_l10Is.l0 k x3 (wrap64 (x4 + 1)) x1000) else (some false)) else (none)) else (none)) else (spec_l10Is.l1 k x3 0 x1000)
def spec_l10Is.l1 : Nat → Int → Int → List (List Int) → Option (Bool)
 | 0, _, _, _ => none
 | k + 1, x3, x5, x1000 => if x5 < x3 then (spec_l10Is.l2 k x3 x5 0 x1000) else (some true)
def spec_l10Is.l2 : Nat → Int → Int → Int → List (List Int) → Option (Bool)
 | 0, _, _, _, _ => none
 | k + 1, x3, x5, x6, x1000 => if x6 < x3 then (if 0 ≤ x5 then (if x5 < (x1000.length : Int) then (if 0 ≤ x6 then (if x6 < ((rd_Ls2 x1000 x5).length : Int) then ((spec_l00In.f (rd (rd_Ls2 x1000 x5) x6) 0 1000).bind fun t310 => (if t310 = true then (if x6 < (x1000.length : Int) then (if x5 < ((rd_Ls2 x1000 x6).length : Int) then (if (rd (rd_Ls2 x1000 x5) x6) = (rd (rd_Ls2 x1000 x6) x5) then (if x5 < ((rd_Ls2 x1000 x5).length : Int) then (spec_l10Is.j3 k x3 x5 x6 ((rd (rd_Ls2 x1000 x5) x5) != 0) x1000) else (none)) else (spec_l10Is.j3 k x3 x5 x6 true x1000)) else (none)) else (none)) else (spec_l10Is.j3 k x3 x5 x6 true x1000))) else (none)) else (none)) else (none)) else (none)) else (spec_l10Is.l1 k x3 (wrap64 (x5 + 1)) x1000)
def spec_l10Is.j3 : Nat → Int → Int → Int → Bool → List (List Int) → Option (Bool)
 | 0, _, _, _, _, _ => none
 | k + 1, x3, x5, x6, x87, x1000 => if x87 = true then (some false) else (spec_l10Is.l2 k x3 x5 (wrap64 (x6 + 1)) x1000)
end
def spec_l10Is.f (k : Nat) (l0_0 : List (List Int)) : Option (Bool) := (spec_l00In.f (l0_0.length : Int) 1 9).bind fun t306 => (if t306 = true then (spec_l10Is.l0 k (l0_0.length : Int) 0 l0_0) else (some false))
theorem spec_l10Is.mono_l : ∀ k, (∀ y0 y1 y2, LeO (spec_l10Is.l0 k y0 y1 y2) (spec_l10Is.l0 (k + 1) y0 y1 y2)) ∧ (∀ y0 y1 y2, LeO (spec_l10Is.l1 k y0 y1 y2) (spec_l10Is.l1 (k + 1) y0 y1 y2)) ∧ (∀ y0 y1 y2 y3, LeO (spec_l10Is.l2 k y0 y1 y2 y3) (spec_l10Is.l2 (k + 1) y0 y1 y2 y3)) ∧ (∀ y0 y1 y2 y3 y4, LeO (spec_l10Is.j3 k y0 y1 y2 y3 y4) (spec_l10Is.j3 (k + 1) y0 y1 y2 y3 y4))
 | 0 => ⟨fun _ _ _ r h => by simp [spec_l10Is.l0] at h, fun _ _ _ r h => by simp [spec_l10Is.l1] at h, fun _ _ _ _ r h => by simp [spec_l10Is.l2] at h, fun _ _ _ _ _ r h => by simp [spec_l10Is.j3] at h⟩
 | k + 1 => by
  obtain ⟨ih0, ih1, ih2, ih3⟩ := spec_l10Is.mono_l k
  refine ⟨?_, ?_, ?_, ?_⟩
  ·intro y0 y1 y2
   unfold spec_l10Is.l0
   repeat' first
   | (with_reducible exact ih0 _ _ _)
   | (with_reducible exact ih1 _ _ _)
   | (with_reducible exact ih2 _ _ _ _)
   | (with_reducible exact ih3 _ _ _ _ _)
   | (with_reducible exact LeO.refl _)
   | (with_reducible exact LeO.none _)
   | (with_reducible refine LeO.ite ?_ ?_)
   | (with_reducible refine LeO.bind ?_ (fun _ => ?_))
   | exact ih0 _ _ _
   | exact ih1 _ _ _
   | exact ih2 _ _ _ _
   | exact ih3 _ _ _ _ _
   | exact LeO.none _
   | refine LeO.ite ?_ ?_
   | refine LeO.bind ?_ (fun _ => ?_)
  ·intro y0 y1 y2
   unfold spec_l10Is.l1
   repeat' first
   | (with_reducible exact ih0 _ _ _)
   | (with_reducible exact ih1 _ _ _)
   | (with_reducible exact ih2 _ _ _ _)
   | (with_reducible exact ih3 _ _ _ _ _)
   | (with_reducible exact LeO.refl _)
   | (with_reducible exact LeO.none _)
   | (with_reducible refine LeO.ite ?_ ?_)
   | (with_reducible refine LeO.bind ?_ (fun _ => ?_))
   | exact ih0 _ _ _
   | exact ih1 _ _ _
   | exact ih2 _ _ _ _
   | exact ih3 _ _ _ _ _
   | exact LeO.none _
   | refine LeO.ite ?_ ?_
   | refine LeO.bind ?_ (fun _ => ?_)
  ·intro y0 y1 y2 y3
   unfold spec_l10Is.l2
   repeat' first
   | (with_reducible exact ih0 _ _ _)
   | (with_reducible exact ih1 _ _ _)
   | (with_reducible exact ih2 _ _ _ _)
   | (with_reducible exact ih3 _ _ _ _ _)
   | (with_reducible exact LeO.refl _)
   | (with_reducible exact LeO.none _)
   | (with_reducible refine LeO.ite ?_ ?_)
   | (with_reducible refine LeO.bind ?_ (fun _ => ?_))
   | exact ih0 _ _ _
   | exact ih1 _ _ _
   | exact ih2 _ _ _ _
   | exact ih3 _ _ _ _ _
   | exact LeO.none _
   | refine LeO.ite ?_ ?_
   | refine LeO.bind ?_ (fun _ => ?_)
  ·intro y0 y1 y2 y3 y4
   unfold spec_l10Is.j3
   repeat' first
   | (with_reducible exact ih0 _ _ _)
   | (with_reducible exact ih1 _ _ _)
   | (with_reducible exact ih2 _ _ _ _)
   | (with_reducible exact ih3 _ _ _ _ _)
   | (with_reducible exact LeO.refl _)
   | (with_reducible exact LeO.none _)
   | (with_reducible refine LeO.ite ?_ ?_)
   | (with_reducible refine LeO.bind ?_ (fun _ => ?_))
   | exact ih0 _ _ _
   | exact ih1 _ _ _
   | exact ih2 _ _ _ _
   | exact ih3 _ _ _ _ _
   | exact LeO.none _
   | refine LeO.ite ?_ ?_
   | refine LeO.bind ?_ (fun _ => ?_)
theorem spec_l10Is.mono : ∀ a0 k, LeO (spec_l10Is.f k a0) (spec_l10Is.f (k + 1) a0) := by
 intro a0 k
 obtain ⟨ih0, ih1, ih2, ih3⟩ := spec_l10Is.mono_l k
 unfold spec_l10Is.f
 repeat' first
   | (with_reducible exact ih0 _ _ _)
   | (with_reducible exact ih1 _ _ _)
   | (with_reducible exact ih2 _ _ _ _)
   | (with_reducible exact ih3 _ _ _ _ _)
   | (with_reducible exact LeO.refl _)
   | (with_reducible exact LeO.none _)
   | (with_reducible refine LeO.ite ?_ ?_)
   | (with_reducible refine LeO.bind ?_ (fun _ => ?_))
   | exact ih0 _ _ _
   | exact ih1 _ _ _
   | exact ih2 _ _ _ _
   | exact ih3 _ _ _ _ _
   | exact LeO.none _
   | refine LeO.ite ?_ ?_
   | refine LeO.bind ?_ (fun _ => ?_)
set_option maxHeartbeats 2000000 in
set_option maxRecDepth 100000 in
theorem spec_l10Is.calls (k : Nat) (g0 : Nat) (A0_0 : Option Addr) (c0_0 : Nat) (l0_0 : List (List Int)) (r : Bool) (w : World) (hb0 : w.heap[g0]? = some (.cells #[.slice A0_0 l0_0.length c0_0] 44 (0, 0))) (hr0_0 : Kd.C (Kd.slice 2 (Kd.int .i64)) w A0_0 l0_0.length l0_0) (hc0_0 : l0_0.length ≤ c0_0) (h : spec_l10Is.f k l0_0 = some r) :
  Calls Try.prog 74 #[.pointer (some ⟨g0, 0, none⟩)] w fun e w' => e = .returned (.bool r) ∧ Drawn0 w w' := by
 have HR0_0 := Aside0.mk hr0_0
 have HC0_0 := Aside0.mk hc0_0
 clear hr0_0 hc0_0
 have BK0 := Aside0.mk hb0
 clear hb0
 have H : ((spec_l00In.f (l0_0.length : Int) 1 9).bind fun t306 => (if t306 = true then (spec_l10Is.l0 k (l0_0.length : Int) 0 l0_0) else (some false))) = some r := h
 clear h
 replace H := Option.bind_eq_some_iff.mp H
 obtain ⟨t306, A20, H⟩ := H
 replace H : (if t306 = true then (spec_l10Is.l0 k (l0_0.length : Int) 0 l0_0) else (some false)) = some r := H
 have A2 := Aside0.mk A20
 clear A20
 by_cases c3 : t306 = true
 ·subst c3
  have H1 : (spec_l10Is.l0 k (l0_0.length : Int) 0 l0_0) = some r := by rw [if_pos rfl] at H; exact H
  clear H
  have H := H1
  clear H1
  have H' := Aside0.mk H
  clear H
  have hcz4_0 : w.cell? ⟨g0, 0, none⟩ = some (.slice A0_0 l0_0.length c0_0) := (blk_cell BK0.out 0).trans rfl
  have hfz4_0 := blk_frozen BK0.out 0
  go_enter Try.func74, Try.ntmps74
  go_wp2_with (first | (go_at_call 101; (with_reducible refine (spec_l00In.calls (l0_0.length : Int) 1 9 true _ A2.out).mono ?_); rintro e w' ⟨rfl, ⟨nd, rfl⟩⟩; (try first | exact ⟨rfl, _, World.drewN_drewN _ _ _⟩ | exact ⟨rfl, _, Eq.trans (World.drewN_drewN _ _ _) (congrArg (World.drewN _) (Nat.add_assoc _ _ _))⟩)))
  repeat (go_quiet (first | (go_at_call 101; (with_reducible refine (spec_l00In.calls (l0_0.length : Int) 1 9 true _ A2.out).mono ?_); rintro e w' ⟨rfl, ⟨nd, rfl⟩⟩; (try first | exact ⟨rfl, _, World.drewN_drewN _ _ _⟩ | exact ⟨rfl, _, Eq.trans (World.drewN_drewN _ _ _) (congrArg (World.drewN _) (Nat.add_assoc _ _ _))⟩))); try go_wp2_with (first | (go_at_call 101; (with_reducible refine (spec_l00In.calls (l0_0.length : Int) 1 9 true _ A2.out).mono ?_); rintro e w' ⟨rfl, ⟨nd, rfl⟩⟩; (try first | exact ⟨rfl, _, World.drewN_drewN _ _ _⟩ | exact ⟨rfl, _, Eq.trans (World.drewN_drewN _ _ _) (congrArg (World.drewN _) (Nat.add_assoc _ _ _))⟩))))
  go_loopg [4] k (fun kq v4 w' => ∃ (x4_1 : Int), v4 = .int .i64 x4_1 ∧ Aside0 (spec_l10Is.l0 kq (l0_0.length : Int) x4_1 l0_0 = some r) ∧ Aside0 (kq ≤ k) ∧ Aside0 (w'.heap[g0]? = some (.cells #[(.slice A0_0 l0_0.length c0_0)] 44 (0, 0))) ∧ Drawn0 w w')
  case atStart => exact ⟨(0), (by first | rfl | (simp; done) | (simp [*]; done)), H', ⟨Nat.le_refl _⟩, ⟨by (with_reducible repeat first | refine b_N ?_ _ | refine b_D ?_ | refine b_A ?_ _); exact BK0.out⟩, by repeat (first | exact Drawn0.refl _ | apply Drawn0.step)⟩
  case round =>
   clear H'
   try clear p2
   try clear c3
   try clear hcz4_0
   try clear hfz4_0
   obtain ⟨x4_1, rfl, HA, HK1, BK0, ⟨m1, rfl⟩⟩ := hrel
   cases gk with
   | zero => exact absurd HA.out (by simp [spec_l10Is.l0])
   | succ k1 =>
    have H := HA.out
    clear HA
    simp only [spec_l10Is.l0] at H
    by_cases c5 : x4_1 < (l0_0.length : Int)
    ·rw [if_pos c5] at H
     have c5b0 : decide (x4_1 < (l0_0.length : Int)) = true := decide_eq_true c5
     clear c5
     by_cases c6 : 0 ≤ x4_1
     ·rw [if_pos c6] at H
      have c6b0 : decide (0 ≤ x4_1) = true := decide_eq_true c6
      clear c6
      by_cases c7 : x4_1 < (l0_0.length : Int)
      ·rw [if_pos c7] at H
       have c7b0 : decide (x4_1 < (l0_0.length : Int)) = true := decide_eq_true c7
       clear c7
       by_cases c8 : ((rd_Ls2 l0_0 x4_1).length : Int) = (l0_0.length : Int)
       ·rw [if_pos c8] at H
        have c8b0 : (((rd_Ls2 l0_0 x4_1).length : Int) == (l0_0.length : Int)) = true := beq_iff_eq.mpr c8
        have c8b1 : (((rd_Ls2 l0_0 x4_1).length : Int) != (l0_0.length : Int)) = false := bne_eq_false_iff_eq.mpr c8
        have c8b2 : ((rd_Ls2 l0_0 x4_1).length == l0_0.length) = true := by first | simpa using c8 | (simp at c8 ⊢; omega)
        clear c8
        have H' := Aside0.mk H
        clear H
        have hcz9_0 : w.cell? ⟨g0, 0, none⟩ = some (.slice A0_0 l0_0.length c0_0) := (blk_cell BK0.out 0).trans rfl
        have hfz9_0 := blk_frozen BK0.out 0
        have p307 : 0 ≤ (x4_1 : Int) := of_decide_eq_true (by first | (with_reducible assumption) | assumption)
        have q307 : x4_1 < (l0_0.length : Int) := of_decide_eq_true (by first | (with_reducible assumption) | assumption)
        obtain ⟨ad307, A307_0, c307_0, e307, hx307_0, hl307_0, hi307_0⟩ := at_Ls2 HR0_0.out x4_1 p307 q307
        cases e307
        have HR307_0 := Aside0.mk hi307_0
        have HC307_0 := Aside0.mk hl307_0
        clear hi307_0 hl307_0
        replace p307 := eq_true p307
        replace q307 := eq_true q307
        go_wp2
        repeat (go_quiet (fail); try go_wp2)
        go_roundg k1
        case measure => have := HK1.out; omega
        case rel => exact ⟨(wrap64 (x4_1 + 1)), (by first | rfl | (simp; done) | (simp [*]; done)), H', ⟨by have := HK1.out; omega⟩, ⟨by (with_reducible repeat first | refine b_N ?_ _ | refine b_D ?_ | refine b_A ?_ _); exact BK0.out⟩, by repeat (first | exact Drawn0.refl _ | apply Drawn0.step)⟩
       ·rw [if_neg c8] at H
        have c8b0 : (((rd_Ls2 l0_0 x4_1).length : Int) == (l0_0.length : Int)) = false := beq_eq_false_iff_ne.mpr c8
        have c8b1 : (((rd_Ls2 l0_0 x4_1).length : Int) != (l0_0.length : Int)) = true := bne_iff_ne.mpr c8
        have c8b2 : ((rd_Ls2 l0_0 x4_1).length == l0_0.length) = false := by first | simpa using c8 | (simp at c8 ⊢; omega)
        obtain rfl := Option.some.inj H
        have hcz10_0 : w.cell? ⟨g0, 0, none⟩ = some (.slice A0_0 l0_0.length c0_0) := (blk_cell BK0.out 0).trans rfl
        have hfz10_0 := blk_frozen BK0.out 0
        have p307 : 0 ≤ (x4_1 : Int) := of_decide_eq_true (by first | (with_reducible assumption) | assumption)
        have q307 : x4_1 < (l0_0.length : Int) := of_decide_eq_true (by first | (with_reducible assumption) | assumption)
        obtain ⟨ad307, A307_0, c307_0, e307, hx307_0, hl307_0, hi307_0⟩ := at_Ls2 HR0_0.out x4_1 p307 q307
        cases e307
        have HR307_0 := Aside0.mk hi307_0
        have HC307_0 := Aside0.mk hl307_0
        clear hi307_0 hl307_0
        replace p307 := eq_true p307
        replace q307 := eq_true q307
        go_wp2
        repeat (go_quiet (fail); try go_wp2)
        go_ret
        exact ⟨by first | rfl | (simp; done) | (simp [*]; done), by repeat (first | exact Drawn0.refl _ | apply Drawn0.step)⟩
      ·rw [if_neg c7] at H
       exact absurd H (by simp)
     ·rw [if_neg c6] at H
      exact absurd H (by simp)
    ·rw [if_neg c5] at H
     have c5b0 : decide (x4_1 < (l0_0.length : Int)) = false := decide_eq_false c5
     clear c5
     have H' := Aside0.mk H
     clear H
     go_wp2
     repeat (go_quiet (fail); try go_wp2)
     go_loopg [5] k1 (fun kq v5 w' => ∃ (x5_2 : Int), v5 = .int .i64 x5_2 ∧ Aside0 (spec_l10Is.l1 kq (l0_0.length : Int) x5_2 l0_0 = some r) ∧ Aside0 (kq ≤ k1) ∧ Aside0 (w'.heap[g0]? = some (.cells #[(.slice A0_0 l0_0.length c0_0)] 44 (0, 0))) ∧ Drawn0 w w')
     case atStart => exact ⟨(0), (by first | rfl | (simp; done) | (simp [*]; done)), H', ⟨Nat.le_refl _⟩, ⟨by (with_reducible repeat first | refine b_N ?_ _ | refine b_D ?_ | refine b_A ?_ _); exact BK0.out⟩, by repeat (first | exact Drawn0.refl _ | apply Drawn0.step)⟩
     case round =>
      clear H'
      try clear p2
      try clear c3
      try clear p3
      try clear q3
      try clear hx3
      try clear c5
      try clear c5b0
      try clear c6
      try clear c6b0
      try clear p6
      try clear c7
      try clear c7b0
      try clear c8
      try clear c8b0
      try clear c8b1
      try clear c8b2
      try clear hcz10_0
      try clear hcz4_0
      try clear hcz9_0
      try clear hfz10_0
      try clear hfz4_0
      try clear hfz9_0
      try clear hx307_0
      try clear p2
      try clear p307
      try clear q307
      obtain ⟨x5_2, rfl, HA, HK2, BK0, ⟨m2, rfl⟩⟩ := hrel
      cases gk with
      | zero => exact absurd HA.out (by simp [spec_l10Is.l1])
      | succ k2 =>
       have H := HA.out
       clear HA
       simp only [spec_l10Is.l1] at H
       by_cases c11 : x5_2 < (l0_0.length : Int)
       ·rw [if_pos c11] at H
        have c11b0 : decide (x5_2 < (l0_0.length : Int)) = true := decide_eq_true c11
        clear c11
        have H' := Aside0.mk H
        clear H
        go_wp2
        repeat (go_quiet (fail); try go_wp2)
        go_loopg [6] k2 (fun kq v6 w' => ∃ (x6_3 : Int), v6 = .int .i64 x6_3 ∧ Aside0 (spec_l10Is.l2 kq (l0_0.length : Int) x5_2 x6_3 l0_0 = some r) ∧ Aside0 (kq ≤ k2) ∧ Aside0 (w'.heap[g0]? = some (.cells #[(.slice A0_0 l0_0.length c0_0)] 44 (0, 0))) ∧ Drawn0 w w')
        case atStart => exact ⟨(0), (by first | rfl | (simp; done) | (simp [*]; done)), H', ⟨Nat.le_refl _⟩, ⟨by (with_reducible repeat first | refine b_N ?_ _ | refine b_D ?_ | refine b_A ?_ _); exact BK0.out⟩, by repeat (first | exact Drawn0.refl _ | apply Drawn0.step)⟩
        case round =>
         clear H'
         try clear c1
         try clear p2
         try clear c3
         try clear p3
         try clear q3
         try clear hx3
         try clear c5
         try clear c5b0
         try clear c6
         try clear c6b0
         try clear p6
         try clear c7
         try clear c7b0
         try clear c8
         try clear c8b0
         try clear c8b1
         try clear c8b2
         try clear c11
         try clear c11b0
         try clear hcz10_0
         try clear hcz4_0
         try clear hcz9_0
         try clear hfz10_0
         try clear hfz4_0
         try clear hfz9_0
         try clear hx307_0
         try clear p2
         try clear p3
         try clear p307
         try clear p6
         try clear q3
         try clear q307
         obtain ⟨x6_3, rfl, HA, HK3, BK0, ⟨m3, rfl⟩⟩ := hrel
         cases gk with
         | zero => exact absurd HA.out (by simp [spec_l10Is.l2])
         | succ k3 =>
          have H := HA.out
          clear HA
          simp only [spec_l10Is.l2] at H
          by_cases c12 : x6_3 < (l0_0.length : Int)
          ·rw [if_pos c12] at H
           have c12b0 : decide (x6_3 < (l0_0.length : Int)) = true := decide_eq_true c12
           clear c12
           have HC13 := Aside0.mk H
           clear H
           go_upto_region 15 with (fail)
           repeat (go_quiet (fail); go_upto_region 15 with (fail))
           go_cut [87] (fun v87 wc => ∃ (kq : Nat) (x87_12 : Bool), v87 = .bool x87_12 ∧ Aside0 (spec_l10Is.j3 kq (l0_0.length : Int) x5_2 x6_3 x87_12 l0_0 = some r) ∧ Aside0 (kq ≤ k3) ∧ Aside0 (wc.heap[g0]? = some (.cells #[(.slice A0_0 l0_0.length c0_0)] 44 (0, 0))) ∧ Drawn0 w wc)
           case first =>
            have H := HC13.out
            clear HC13
            by_cases c14 : 0 ≤ x5_2
            ·rw [if_pos c14] at H
             have c14b0 : decide (0 ≤ x5_2) = true := decide_eq_true c14
             clear c14
             (first | rw [c14b0] | (simp only [i64_w, i32_w]; rw [c14b0]) | skip)
             by_cases c15 : x5_2 < (l0_0.length : Int)
             ·rw [if_pos c15] at H
              have c15b0 : decide (x5_2 < (l0_0.length : Int)) = true := decide_eq_true c15
              clear c15
              by_cases c16 : 0 ≤ x6_3
              ·rw [if_pos c16] at H
               have c16b0 : decide (0 ≤ x6_3) = true := decide_eq_true c16
               clear c16
               by_cases c17 : x6_3 < ((rd_Ls2 l0_0 x5_2).length : Int)
               ·rw [if_pos c17] at H
                have c17b0 : decide (x6_3 < ((rd_Ls2 l0_0 x5_2).length : Int)) = true := decide_eq_true c17
                clear c17
                replace H := Option.bind_eq_some_iff.mp H
                obtain ⟨t310, A180, H⟩ := H
                replace H : (if t310 = true then (if x6_3 < (l0_0.length : Int) then (if x5_2 < ((rd_Ls2 l0_0 x6_3).length : Int) then (if (rd (rd_Ls2 l0_0 x5_2) x6_3) = (rd (rd_Ls2 l0_0 x6_3) x5_2) then (if x5_2 < ((rd_Ls2 l0_0 x5_2).length : Int) then (spec_l10Is.j3 k3 (l0_0.length : Int) x5_2 x6_3 ((rd (rd_Ls2 l0_0 x5_2) x5_2) != 0) l0_0) else (none)) else (spec_l10Is.j3 k3 (l0_0.length : Int) x5_2 x6_3 true l0_0)) else (none)) else (none)) else (spec_l10Is.j3 k3 (l0_0.length : Int) x5_2 x6_3 true l0_0)) = some r := H
                have A18 := Aside0.mk A180
                clear A180
                by_cases c19 : t310 = true
                ·subst c19
                 have H1 : (if x6_3 < (l0_0.length : Int) then (if x5_2 < ((rd_Ls2 l0_0 x6_3).length : Int) then (if (rd (rd_Ls2 l0_0 x5_2) x6_3) = (rd (rd_Ls2 l0_0 x6_3) x5_2) then (if x5_2 < ((rd_Ls2 l0_0 x5_2).length : Int) then (spec_l10Is.j3 k3 (l0_0.length : Int) x5_2 x6_3 ((rd (rd_Ls2 l0_0 x5_2) x5_2) != 0) l0_0) else (none)) else (spec_l10Is.j3 k3 (l0_0.length : Int) x5_2 x6_3 true l0_0)) else (none)) else (none)) = some r := by rw [if_pos rfl] at H; exact H
                 clear H
                 have H := H1
                 clear H1
                 by_cases c20 : x6_3 < (l0_0.length : Int)
                 ·rw [if_pos c20] at H
                  have c20b0 : decide (x6_3 < (l0_0.length : Int)) = true := decide_eq_true c20
                  clear c20
                  by_cases c21 : x5_2 < ((rd_Ls2 l0_0 x6_3).length : Int)
                  ·rw [if_pos c21] at H
                   have c21b0 : decide (x5_2 < ((rd_Ls2 l0_0 x6_3).length : Int)) = true := decide_eq_true c21
                   clear c21
                   by_cases c22 : (rd (rd_Ls2 l0_0 x5_2) x6_3) = (rd (rd_Ls2 l0_0 x6_3) x5_2)
                   ·rw [if_pos c22] at H
                    have c22b0 : ((rd (rd_Ls2 l0_0 x5_2) x6_3) == (rd (rd_Ls2 l0_0 x6_3) x5_2)) = true := beq_iff_eq.mpr c22
                    have c22b1 : ((rd (rd_Ls2 l0_0 x5_2) x6_3) != (rd (rd_Ls2 l0_0 x6_3) x5_2)) = false := bne_eq_false_iff_eq.mpr c22
                    clear c22
                    by_cases c23 : x5_2 < ((rd_Ls2 l0_0 x5_2).length : Int)
                    ·rw [if_pos c23] at H
                     have c23b0 : decide (x5_2 < ((rd_Ls2 l0_0 x5_2).length : Int)) = true := decide_eq_true c23
                     clear c23
                     have H' := Aside0.mk H
                     clear H
                     have hcz24_0 : w.cell? ⟨g0, 0, none⟩ = some (.slice A0_0 l0_0.length c0_0) := (blk_cell BK0.out 0).trans rfl
                     have hfz24_0 := blk_frozen BK0.out 0
                     have p308 : 0 ≤ (x5_2 : Int) := of_decide_eq_true (by first | (with_reducible assumption) | assumption)
                     have q308 : x5_2 < (l0_0.length : Int) := of_decide_eq_true (by first | (with_reducible assumption) | assumption)
                     obtain ⟨ad308, A308_0, c308_0, e308, hx308_0, hl308_0, hi308_0⟩ := at_Ls2 HR0_0.out x5_2 p308 q308
                     cases e308
                     have HR308_0 := Aside0.mk hi308_0
                     have HC308_0 := Aside0.mk hl308_0
                     clear hi308_0 hl308_0
                     replace p308 := eq_true p308
                     replace q308 := eq_true q308
                     have p309 : 0 ≤ (x6_3 : Int) := of_decide_eq_true (by first | (with_reducible assumption) | assumption)
                     have q309 : x6_3 < ((rd_Ls2 l0_0 x5_2).length : Int) := of_decide_eq_true (by first | (with_reducible assumption) | assumption)
                     obtain ⟨ad309, e309, hx309_0⟩ := Kd.at_int HR308_0.out x6_3 p309 q309
                     cases e309
                     replace p309 := eq_true p309
                     replace q309 := eq_true q309
                     have p311 : 0 ≤ (x5_2 : Int) := of_decide_eq_true (by first | (with_reducible assumption) | assumption)
                     have q311 : x5_2 < (l0_0.length : Int) := of_decide_eq_true (by first | (with_reducible assumption) | assumption)
                     obtain ⟨ad311, A311_0, c311_0, e311, hx311_0, hl311_0, hi311_0⟩ := at_Ls2 HR0_0.out x5_2 p311 q311
                     obtain rfl : ad308 = ad311 := (by injection e311)
                     have HR311_0 := Aside0.mk hi311_0
                     have HC311_0 := Aside0.mk hl311_0
                     clear hi311_0 hl311_0
                     replace p311 := eq_true p311
                     replace q311 := eq_true q311
                     have ea_ := Option.some.inj (hx308_0.symm.trans hx311_0)
                     injection ea_ with ea_ en_ ec_
                     subst ea_
                     subst ec_
                     clear en_
                     have p312 : 0 ≤ (x6_3 : Int) := of_decide_eq_true (by first | (with_reducible assumption) | assumption)
                     have q312 : x6_3 < ((rd_Ls2 l0_0 x5_2).length : Int) := of_decide_eq_true (by first | (with_reducible assumption) | assumption)
                     obtain ⟨ad312, e312, hx312_0⟩ := Kd.at_int HR311_0.out x6_3 p312 q312
                     cases e312
                     replace p312 := eq_true p312
                     replace q312 := eq_true q312
                     have p313 : 0 ≤ (x6_3 : Int) := of_decide_eq_true (by first | (with_reducible assumption) | assumption)
                     have q313 : x6_3 < (l0_0.length : Int) := of_decide_eq_true (by first | (with_reducible assumption) | assumption)
                     obtain ⟨ad313, A313_0, c313_0, e313, hx313_0, hl313_0, hi313_0⟩ := at_Ls2 HR0_0.out x6_3 p313 q313
                     obtain rfl : ad308 = ad313 := (by injection e313)
                     have HR313_0 := Aside0.mk hi313_0
                     have HC313_0 := Aside0.mk hl313_0
                     clear hi313_0 hl313_0
                     replace p313 := eq_true p313
                     replace q313 := eq_true q313
                     have p314 : 0 ≤ (x5_2 : Int) := of_decide_eq_true (by first | (with_reducible assumption) | assumption)
                     have q314 : x5_2 < ((rd_Ls2 l0_0 x6_3).length : Int) := of_decide_eq_true (by first | (with_reducible assumption) | assumption)
                     obtain ⟨ad314, e314, hx314_0⟩ := Kd.at_int HR313_0.out x5_2 p314 q314
                     cases e314
                     replace p314 := eq_true p314
                     replace q314 := eq_true q314
                     have p315 : 0 ≤ (x5_2 : Int) := of_decide_eq_true (by first | (with_reducible assumption) | assumption)
                     have q315 : x5_2 < (l0_0.length : Int) := of_decide_eq_true (by first | (with_reducible assumption) | assumption)
                     obtain ⟨ad315, A315_0, c315_0, e315, hx315_0, hl315_0, hi315_0⟩ := at_Ls2 HR0_0.out x5_2 p315 q315
                     obtain rfl : ad308 = ad315 := (by injection e315)
                     have HR315_0 := Aside0.mk hi315_0
                     have HC315_0 := Aside0.mk hl315_0
                     clear hi315_0 hl315_0
                     replace p315 := eq_true p315
                     replace q315 := eq_true q315
                     have ea_ := Option.some.inj (hx308_0.symm.trans hx315_0)
                     injection ea_ with ea_ en_ ec_
                     subst ea_
                     subst ec_
                     clear en_
                     have p316 : 0 ≤ (x5_2 : Int) := of_decide_eq_true (by first | (with_reducible assumption) | assumption)
                     have q316 : x5_2 < ((rd_Ls2 l0_0 x5_2).length : Int) := of_decide_eq_true (by first | (with_reducible assumption) | assumption)
                     obtain ⟨ad316, e316, hx316_0⟩ := Kd.at_int HR315_0.out x5_2 p316 q316
                     cases e316
                     replace p316 := eq_true p316
                     replace q316 := eq_true q316
                     go_wp2_with (first | (go_at_call 101; (with_reducible refine (spec_l00In.calls (rd (rd_Ls2 l0_0 x5_2) x6_3) 0 1000 true _ A18.out).mono ?_); rintro e w' ⟨rfl, ⟨nd, rfl⟩⟩; (try first | exact ⟨rfl, _, World.drewN_drewN _ _ _⟩ | exact ⟨rfl, _, Eq.trans (World.drewN_drewN _ _ _) (congrArg (World.drewN _) (Nat.add_assoc _ _ _))⟩)))
                     repeat (go_quiet (first | (go_at_call 101; (with_reducible refine (spec_l00In.calls (rd (rd_Ls2 l0_0 x5_2) x6_3) 0 1000 true _ A18.out).mono ?_); rintro e w' ⟨rfl, ⟨nd, rfl⟩⟩; (try first | exact ⟨rfl, _, World.drewN_drewN _ _ _⟩ | exact ⟨rfl, _, Eq.trans (World.drewN_drewN _ _ _) (congrArg (World.drewN _) (Nat.add_assoc _ _ _))⟩))); try go_wp2_with (first | (go_at_call 101; (with_reducible refine (spec_l00In.calls (rd (rd_Ls2 l0_0 x5_2) x6_3) 0 1000 true _ A18.out).mono ?_); rintro e w' ⟨rfl, ⟨nd, rfl⟩⟩; (try first | exact ⟨rfl, _, World.drewN_drewN _ _ _⟩ | exact ⟨rfl, _, Eq.trans (World.drewN_drewN _ _ _) (congrArg (World.drewN _) (Nat.add_assoc _ _ _))⟩))))
                     go_meet
                     case rel => exact ⟨_, (((rd (rd_Ls2 l0_0 x5_2) x5_2) != 0)), (by first | rfl | (simp; done) | (simp [*]; done)), H', ⟨by have := HK1.out; have := HK2.out; have := HK3.out; first | omega | exact Nat.le_refl _⟩, ⟨by (with_reducible repeat first | refine b_N ?_ _ | refine b_D ?_ | refine b_A ?_ _); exact BK0.out⟩, by repeat (first | exact Drawn0.refl _ | apply Drawn0.step)⟩
                    ·rw [if_neg c23] at H
                     exact absurd H (by simp)
                   ·rw [if_neg c22] at H
                    have c22b0 : ((rd (rd_Ls2 l0_0 x5_2) x6_3) == (rd (rd_Ls2 l0_0 x6_3) x5_2)) = false := beq_eq_false_iff_ne.mpr c22
                    have c22b1 : ((rd (rd_Ls2 l0_0 x5_2) x6_3) != (rd (rd_Ls2 l0_0 x6_3) x5_2)) = true := bne_iff_ne.mpr c22
                    have H' := Aside0.mk H
                    clear H
                    have hcz25_0 : w.cell? ⟨g0, 0, none⟩ = some (.slice A0_0 l0_0.length c0_0) := (blk_cell BK0.out 0).trans rfl
                    have hfz25_0 := blk_frozen BK0.out 0
                    have p308 : 0 ≤ (x5_2 : Int) := of_decide_eq_true (by first | (with_reducible assumption) | assumption)
                    have q308 : x5_2 < (l0_0.length : Int) := of_decide_eq_true (by first | (with_reducible assumption) | assumption)
                    obtain ⟨ad308, A308_0, c308_0, e308, hx308_0, hl308_0, hi308_0⟩ := at_Ls2 HR0_0.out x5_2 p308 q308
                    cases e308
                    have HR308_0 := Aside0.mk hi308_0
                    have HC308_0 := Aside0.mk hl308_0
                    clear hi308_0 hl308_0
                    replace p308 := eq_true p308
                    replace q308 := eq_true q308
                    have p309 : 0 ≤ (x6_3 : Int) := of_decide_eq_true (by first | (with_reducible assumption) | assumption)
                    have q309 : x6_3 < ((rd_Ls2 l0_0 x5_2).length : Int) := of_decide_eq_true (by first | (with_reducible assumption) | assumption)
                    obtain ⟨ad309, e309, hx309_0⟩ := Kd.at_int HR308_0.out x6_3 p309 q309
                    cases e309
                    replace p309 := eq_true p309
                    replace q309 := eq_true q309
                    have p311 : 0 ≤ (x5_2 : Int) := of_decide_eq_true (by first | (with_reducible assumption) | assumption)
                    have q311 : x5_2 < (l0_0.length : Int) := of_decide_eq_true (by first | (with_reducible assumption) | assumption)
                    obtain ⟨ad311, A311_0, c311_0, e311, hx311_0, hl311_0, hi311_0⟩ := at_Ls2 HR0_0.out x5_2 p311 q311
                    obtain rfl : ad308 = ad311 := (by injection e311)
                    have HR311_0 := Aside0.mk hi311_0
                    have HC311_0 := Aside0.mk hl311_0
                    clear hi311_0 hl311_0
                    replace p311 := eq_true p311
                    replace q311 := eq_true q311
                    have ea_ := Option.some.inj (hx308_0.symm.trans hx311_0)
                    injection ea_ with ea_ en_ ec_
                    subst ea_
                    subst ec_
                    clear en_
                    have p312 : 0 ≤ (x6_3 : Int) := of_decide_eq_true (by first | (with_reducible assumption) | assumption)
                    have q312 : x6_3 < ((rd_Ls2 l0_0 x5_2).length : Int) := of_decide_eq_true (by first | (with_reducible assumption) | assumption)
                    obtain ⟨ad312, e312, hx312_0⟩ := Kd.at_int HR311_0.out x6_3 p312 q312
                    cases e312
                    replace p312 := eq_true p312
                    replace q312 := eq_true q312
                    have p313 : 0 ≤ (x6_3 : Int) := of_decide_eq_true (by first | (with_reducible assumption) | assumption)
                    have q313 : x6_3 < (l0_0.length : Int) := of_decide_eq_true (by first | (with_reducible assumption) | assumption)
                    obtain ⟨ad313, A313_0, c313_0, e313, hx313_0, hl313_0, hi313_0⟩ := at_Ls2 HR0_0.out x6_3 p313 q313
                    obtain rfl : ad308 = ad313 := (by injection e313)
                    have HR313_0 := Aside0.mk hi313_0
                    have HC313_0 := Aside0.mk hl313_0
                    clear hi313_0 hl313_0
                    replace p313 := eq_true p313
                    replace q313 := eq_true q313
                    have p314 : 0 ≤ (x5_2 : Int) := of_decide_eq_true (by first | (with_reducible assumption) | assumption)
                    have q314 : x5_2 < ((rd_Ls2 l0_0 x6_3).length : Int) := of_decide_eq_true (by first | (with_reducible assumption) | assumption)
                    obtain ⟨ad314, e314, hx314_0⟩ := Kd.at_int HR313_0.out x5_2 p314 q314
                    cases e314
                    replace p314 := eq_true p314
                    replace q314 := eq_true q314
                    go_wp2_with (first | (go_at_call 101; (with_reducible refine (spec_l00In.calls (rd (rd_Ls2 l0_0 x5_2) x6_3) 0 1000 true _ A18.out).mono ?_); rintro e w' ⟨rfl, ⟨nd, rfl⟩⟩; (try first | exact ⟨rfl, _, World.drewN_drewN _ _ _⟩ | exact ⟨rfl, _, Eq.trans (World.drewN_drewN _ _ _) (congrArg (World.drewN _) (Nat.add_assoc _ _ _))⟩)))
                    repeat (go_quiet (first | (go_at_call 101; (with_reducible refine (spec_l00In.calls (rd (rd_Ls2 l0_0 x5_2) x6_3) 0 1000 true _ A18.out).mono ?_); rintro e w' ⟨rfl, ⟨nd, rfl⟩⟩; (try first | exact ⟨rfl, _, World.drewN_drewN _ _ _⟩ | exact ⟨rfl, _, Eq.trans (World.drewN_drewN _ _ _) (congrArg (World.drewN _) (Nat.add_assoc _ _ _))⟩))); try go_wp2_with (first | (go_at_call 101; (with_reducible refine (spec_l00In.calls (rd (rd_Ls2 l0_0 x5_2) x6_3) 0 1000 true _ A18.out).mono ?_); rintro e w' ⟨rfl, ⟨nd, rfl⟩⟩; (try first | exact ⟨rfl, _, World.drewN_drewN _ _ _⟩ | exact ⟨rfl, _, Eq.trans (World.drewN_drewN _ _ _) (congrArg (World.drewN _) (Nat.add_assoc _ _ _))⟩))))
                    go_meet
                    case rel => exact ⟨_, (true), (by first | rfl | (simp; done) | (simp [*]; done)), H', ⟨by have := HK1.out; have := HK2.out; have := HK3.out; first | omega | exact Nat.le_refl _⟩, ⟨by (with_reducible repeat first | refine b_N ?_ _ | refine b_D ?_ | refine b_A ?_ _); exact BK0.out⟩, by repeat (first | exact Drawn0.refl _ | apply Drawn0.step)⟩
                  ·rw [if_neg c21] at H
                   exact absurd H (by simp)
                 ·rw [if_neg c20] at H
                  exact absurd H (by simp)
                ·replace c19 := Bool.eq_false_iff.mpr c19
                 subst c19
                 have H1 : (spec_l10Is.j3 k3 (l0_0.length : Int) x5_2 x6_3 true l0_0) = some r := by rw [if_neg (show ¬ (false = true) by decide)] at H; exact H
                 clear H
                 have H := H1
                 clear H1
                 have H' := Aside0.mk H
                 clear H
                 have hcz26_0 : w.cell? ⟨g0, 0, none⟩ = some (.slice A0_0 l0_0.length c0_0) := (blk_cell BK0.out 0).trans rfl
                 have hfz26_0 := blk_frozen BK0.out 0
                 have p308 : 0 ≤ (x5_2 : Int) := of_decide_eq_true (by first | (with_reducible assumption) | assumption)
                 have q308 : x5_2 < (l0_0.length : Int) := of_decide_eq_true (by first | (with_reducible assumption) | assumption)
                 obtain ⟨ad308, A308_0, c308_0, e308, hx308_0, hl308_0, hi308_0⟩ := at_Ls2 HR0_0.out x5_2 p308 q308
                 cases e308
                 have HR308_0 := Aside0.mk hi308_0
                 have HC308_0 := Aside0.mk hl308_0
                 clear hi308_0 hl308_0
                 replace p308 := eq_true p308
                 replace q308 := eq_true q308
                 have p309 : 0 ≤ (x6_3 : Int) := of_decide_eq_true (by first | (with_reducible assumption) | assumption)
                 have q309 : x6_3 < ((rd_Ls2 l0_0 x5_2).length : Int) := of_decide_eq_true (by first | (with_reducible assumption) | assumption)
                 obtain ⟨ad309, e309, hx309_0⟩ := Kd.at_int HR308_0.out x6_3 p309 q309
                 cases e309
                 replace p309 := eq_true p309
                 replace q309 := eq_true q309
                 go_wp2_with (first | (go_at_call 101; (with_reducible refine (spec_l00In.calls (rd (rd_Ls2 l0_0 x5_2) x6_3) 0 1000 false _ A18.out).mono ?_); rintro e w' ⟨rfl, ⟨nd, rfl⟩⟩; (try first | exact ⟨rfl, _, World.drewN_drewN _ _ _⟩ | exact ⟨rfl, _, Eq.trans (World.drewN_drewN _ _ _) (congrArg (World.drewN _) (Nat.add_assoc _ _ _))⟩)))
                 repeat (go_quiet (first | (go_at_call 101; (with_reducible refine (spec_l00In.calls (rd (rd_Ls2 l0_0 x5_2) x6_3) 0 1000 false _ A18.out).mono ?_); rintro e w' ⟨rfl, ⟨nd, rfl⟩⟩; (try first | exact ⟨rfl, _, World.drewN_drewN _ _ _⟩ | exact ⟨rfl, _, Eq.trans (World.drewN_drewN _ _ _) (congrArg (World.drewN _) (Nat.add_assoc _ _ _))⟩))); try go_wp2_with (first | (go_at_call 101; (with_reducible refine (spec_l00In.calls (rd (rd_Ls2 l0_0 x5_2) x6_3) 0 1000 false _ A18.out).mono ?_); rintro e w' ⟨rfl, ⟨nd, rfl⟩⟩; (try first | exact ⟨rfl, _, World.drewN_drewN _ _ _⟩ | exact ⟨rfl, _, Eq.trans (World.drewN_drewN _ _ _) (congrArg (World.drewN _) (Nat.add_assoc _ _ _))⟩))))
                 go_meet
                 case rel => exact ⟨_, (true), (by first | rfl | (simp; done) | (simp [*]; done)), H', ⟨by have := HK1.out; have := HK2.out; have := HK3.out; first | omega | exact Nat.le_refl _⟩, ⟨by (with_reducible repeat first | refine b_N ?_ _ | refine b_D ?_ | refine b_A ?_ _); exact BK0.out⟩, by repeat (first | exact Drawn0.refl _ | apply Drawn0.step)⟩
               ·rw [if_neg c17] at H
                exact absurd H (by simp)
              ·rw [if_neg c16] at H
               exact absurd H (by simp)
             ·rw [if_neg c15] at H
              exact absurd H (by simp)
            ·rw [if_neg c14] at H
             exact absurd H (by simp)
           case rest =>
            clear HC13
            try clear c1
            try clear c2
            try clear p2
            try clear c3
            try clear p3
            try clear q3
            try clear hx3
            try clear c5
            try clear c5b0
            try clear c6
            try clear c6b0
            try clear p6
            try clear c7
            try clear c7b0
            try clear c8
            try clear c8b0
            try clear c8b1
            try clear c8b2
            try clear c11
            try clear c11b0
            try clear c12
            try clear c12b0
            try clear c14
            try clear c14b0
            try clear c15
            try clear c15b0
            try clear c16
            try clear c16b0
            try clear c17
            try clear c17b0
            try clear c19
            try clear c20
            try clear c20b0
            try clear c21
            try clear c21b0
            try clear c22
            try clear c22b0
            try clear c22b1
            try clear c23
            try clear c23b0
            try clear hcz10_0
            try clear hcz24_0
            try clear hcz25_0
            try clear hcz26_0
            try clear hcz4_0
            try clear hcz9_0
            try clear hfz10_0
            try clear hfz24_0
            try clear hfz25_0
            try clear hfz26_0
            try clear hfz4_0
            try clear hfz9_0
            try clear hx307_0
            try clear hx308_0
            try clear hx309_0
            try clear hx311_0
            try clear hx312_0
            try clear hx313_0
            try clear hx314_0
            try clear hx315_0
            try clear hx316_0
            try clear p2
            try clear p3
            try clear p307
            try clear p308
            try clear p309
            try clear p311
            try clear p312
            try clear p313
            try clear p314
            try clear p315
            try clear p316
            try clear p6
            try clear q3
            try clear q307
            try clear q308
            try clear q309
            try clear q311
            try clear q312
            try clear q313
            try clear q314
            try clear q315
            try clear q316
            obtain ⟨kq, x87_12, rfl, HA, HJ12, BK0, ⟨mc12, rfl⟩⟩ := hcut
            cases kq with
            | zero => exact absurd HA.out (by simp [spec_l10Is.j3])
            | succ kj12 =>
             have H := HA.out
             clear HA
             simp only [spec_l10Is.j3] at H
             by_cases c27 : x87_12 = true
             ·subst c27
              have H1 : (some false) = some r := by rw [if_pos rfl] at H; exact H
              clear H
              have H := H1
              clear H1
              obtain rfl := Option.some.inj H
              go_wp2
              repeat (go_quiet (fail); try go_wp2)
              go_ret
              exact ⟨by first | rfl | (simp; done) | (simp [*]; done), by repeat (first | exact Drawn0.refl _ | apply Drawn0.step)⟩
             ·replace c27 := Bool.eq_false_iff.mpr c27
              subst c27
              have H1 : (spec_l10Is.l2 kj12 (l0_0.length : Int) x5_2 (wrap64 (x6_3 + 1)) l0_0) = some r := by rw [if_neg (show ¬ (false = true) by decide)] at H; exact H
              clear H
              have H := H1
              clear H1
              have H' := Aside0.mk H
              clear H
              go_wp2
              repeat (go_quiet (fail); try go_wp2)
              go_roundg kj12
              case measure => have := HK1.out; have := HK2.out; have := HK3.out; have := HJ12.out; omega
              case rel => exact ⟨(wrap64 (x6_3 + 1)), (by first | rfl | (simp; done) | (simp [*]; done)), H', ⟨by have := HK1.out; have := HK2.out; have := HK3.out; have := HJ12.out; omega⟩, ⟨by (with_reducible repeat first | refine b_N ?_ _ | refine b_D ?_ | refine b_A ?_ _); exact BK0.out⟩, by repeat (first | exact Drawn0.refl _ | apply Drawn0.step)⟩
          ·rw [if_neg c12] at H
           have c12b0 : decide (x6_3 < (l0_0.length : Int)) = false := decide_eq_false c12
           clear c12
           have H' := Aside0.mk H
           clear H
           go_wp2
           repeat (go_quiet (fail); try go_wp2)
           go_roundg k3
           case measure => have := HK1.out; have := HK2.out; have := HK3.out; omega
           case rel => exact ⟨(wrap64 (x5_2 + 1)), (by first | rfl | (simp; done) | (simp [*]; done)), H', ⟨by have := HK1.out; have := HK2.out; have := HK3.out; omega⟩, ⟨by (with_reducible repeat first | refine b_N ?_ _ | refine b_D ?_ | refine b_A ?_ _); exact BK0.out⟩, by repeat (first | exact Drawn0.refl _ | apply Drawn0.step)⟩
       ·rw [if_neg c11] at H
        have c11b0 : decide (x5_2 < (l0_0.length : Int)) = false := decide_eq_false c11
        clear c11
        obtain rfl := Option.some.inj H
        go_wp2
        repeat (go_quiet (fail); try go_wp2)
        go_ret
        exact ⟨by first | rfl | (simp; done) | (simp [*]; done), by repeat (first | exact Drawn0.refl _ | apply Drawn0.step)⟩
 ·replace c3 := Bool.eq_false_iff.mpr c3
  subst c3
  have H1 : (some false) = some r := by rw [if_neg (show ¬ (false = true) by decide)] at H; exact H
  clear H
  have H := H1
  clear H1
  obtain rfl := Option.some.inj H
  have hcz28_0 : w.cell? ⟨g0, 0, none⟩ = some (.slice A0_0 l0_0.length c0_0) := (blk_cell BK0.out 0).trans rfl
  have hfz28_0 := blk_frozen BK0.out 0
  go_enter Try.func74, Try.ntmps74
  go_wp2_with (first | (go_at_call 101; (with_reducible refine (spec_l00In.calls (l0_0.length : Int) 1 9 false _ A2.out).mono ?_); rintro e w' ⟨rfl, ⟨nd, rfl⟩⟩; (try first | exact ⟨rfl, _, World.drewN_drewN _ _ _⟩ | exact ⟨rfl, _, Eq.trans (World.drewN_drewN _ _ _) (congrArg (World.drewN _) (Nat.add_assoc _ _ _))⟩)))
  repeat (go_quiet (first | (go_at_call 101; (with_reducible refine (spec_l00In.calls (l0_0.length : Int) 1 9 false _ A2.out).mono ?_); rintro e w' ⟨rfl, ⟨nd, rfl⟩⟩; (try first | exact ⟨rfl, _, World.drewN_drewN _ _ _⟩ | exact ⟨rfl, _, Eq.trans (World.drewN_drewN _ _ _) (congrArg (World.drewN _) (Nat.add_assoc _ _ _))⟩))); try go_wp2_with (first | (go_at_call 101; (with_reducible refine (spec_l00In.calls (l0_0.length : Int) 1 9 false _ A2.out).mono ?_); rintro e w' ⟨rfl, ⟨nd, rfl⟩⟩; (try first | exact ⟨rfl, _, World.drewN_drewN _ _ _⟩ | exact ⟨rfl, _, Eq.trans (World.drewN_drewN _ _ _) (congrArg (World.drewN _) (Nat.add_assoc _ _ _))⟩))))
  go_ret
  exact ⟨by first | rfl | (simp; done) | (simp [*]; done), by repeat (first | exact Drawn0.refl _ | apply Drawn0.step)⟩

end Go.Proofs.Ytaapbnhggfmlpaa.P
