-- Printed by wip/xprint.py of this repo, which runs the kit's print.py with hand-proved contracts beside it. Not trusted: Lean checks it.
import Derived.Test.YtaapbnhggfmlpaaPx0
import Derived.Test.YtaapbnhggfmlpaaPxf64
namespace Go.Proofs.Ytaapbnhggfmlpaa.P
open Go.RowKit Go.Proofs.YtaapbnhggfmlpaaW.PrintWords Go.Proofs.YtaapbnhggfmlpaaW.PrintLast Go.Proofs.YtaapbnhggfmlpaaW.PrintMore
attribute [local go_sem] max2_int min2_int max_two min_two max_three min_three max_four min_four   -- for this text's walks alone
set_option linter.unusedVariables false
set_option linter.unusedSimpArgs false

/-! ### impl_ValidBundle: function 54 -/
mutual
def impl_ValidBundle.l0 : Nat → Int → List (List Int) → Int → Int → List (List Int) → Option (Bool)
 | 0, _, _, _, _, _ => none
 | k + 1, x3, x15, x16, x17, x353000 => if x17 < x16 then (if 0 ≤ x17 then (if x17 < (x15.length : Int) then (if ((rd_Ls2 x15 x17).length : Int) = x3 then (if x17 < ((rd_Ls2 x15 x17).length : Int) then (impl_ValidBundle.j1 k x3 x17 (rd_Ls2 x15 x17) x15 x16 x17 ((rd (rd_Ls2 x15 x17) x17) != 0) x353000) else (none)) else (impl_ValidBundle.j1 k x3 x17 (rd_Ls2 x15 x17) x15 x16 x17 true x353000)) else (none)) else (none)) else (some true)
def impl_ValidBundle.j1 : Nat → Int → Int → List Int → List (List Int) → Int → Int → Bool → List (List Int) → Option (Bool)
 | 0, _, _, _, _, _, _, _, _ => none
 | k + 1, x3, x4, x5, x15, x16, x17, x32, x353000 => if x32 = true then (some false) else (impl_ValidBundle.l1 k x3 x4 x15 x16 x17 x5 (x5.length : Int) 0 x353000)
def impl_ValidBundle.l1 : Nat → Int → Int → List (List Int) → Int → Int → List Int → Int → Int → List (List Int) → Option (Bool)
 | 0, _, _, _, _, _, _, _, _, _ => none
 | k + 1, x3, x4, x15, x16, x17, x33, x34, x35, x353000 => if x35 < x34 then (if 0 ≤ x35 then (if x35 < (x33.length : Int) then ((impl_in.f (rd x33 x35) 0 1000).bind fun t357 => (if t357 = true then (if x35 < (x353000.length : Int) then (if ((rd_Ls2 x353000 x35).length : Int) = x3 then (if 0 ≤ x4 then (if x4 < ((rd_Ls2 x353000 x35).length : Int) then (impl_ValidBundle.j3 k x3 x4 x15 x16 x17 x33 x34 x35 ((rd (rd_Ls2 x353000 x35) x4) != (rd x33 x35)) x353000) else (none)) else (none)) else (impl_ValidBundle.j3 k x3 x4 x15 x16 x17 x33 x34 x35 true x353000)) else (none)) else (impl_ValidBundle.j3 k x3 x4 x15 x16 x17 x33 x34 x35 true x353000))) else (none)) else (none)) else (impl_ValidBundle.l0 k x3 x15 x16 (wrap64 (x17 + 1)) x353000)
def impl_ValidBundle.j3 : Nat → Int → Int → List (List Int) → Int → Int → List Int → Int → Int → Bool → List (List Int) → Option (Bool)
 | 0, _, _, _, _, _, _, _, _, _, _ => none
 | k + 1, x3, x4, x15, x16, x17, x33, x34, x35, x64, x353000 => if x64 = true then (some false) else (impl_ValidBundle.l1 k x3 x4 x15 x16 x17 x33 x34 (wrap64 (x35 + 1)) x353000)
end
def impl_ValidBundle.f (k : Nat) (l0_0 : List (List Int)) : Option (Bool) := (impl_in.f (l0_0.length : Int) 1 9).bind fun t353 => (if t353 = true then (impl_ValidBundle.l0 k (l0_0.length : Int) l0_0 (l0_0.length : Int) 0 l0_0) else (some false))
theorem impl_ValidBundle.mono_l : ∀ k, (∀ y0 y1 y2 y3 y4, LeO (impl_ValidBundle.l0 k y0 y1 y2 y3 y4) (impl_ValidBundle.l0 (k + 1) y0 y1 y2 y3 y4)) ∧ (∀ y0 y1 y2 y3 y4 y5 y6 y7, LeO (impl_ValidBundle.j1 k y0 y1 y2 y3 y4 y5 y6 y7) (impl_ValidBundle.j1 (k + 1) y0 y1 y2 y3 y4 y5 y6 y7)) ∧ (∀ y0 y1 y2 y3 y4 y5 y6 y7 y8, LeO (impl_ValidBundle.l1 k y0 y1 y2 y3 y4 y5 y6 y7 y8) (impl_ValidBundle.l1 (k + 1) y0 y1 y2 y3 y4 y5 y6 y7 y8)) ∧ (∀ y0 y1 y2 y3 y4 y5 y6 y7 y8 y9, LeO (impl_ValidBundle.j3 k y0 y1 y2 y3 y4 y5 y6 y7 y8 y9) (impl_ValidBundle.j3 (k + 1) y0 y1 y2 y3 y4 y5 y6 y7 y8 y9))
 | 0 => ⟨fun _ _ _ _ _ r h => by simp [impl_ValidBundle.l0] at h, fun _ _ _ _ _ _ _ _ r h => by simp [impl_ValidBundle.j1] at h, fun _ _ _ _ _ _ _ _ _ r h => by simp [impl_ValidBundle.l1] at h, fun _ _ _ _ _ _ _ _ _ _ r h => by simp [impl_ValidBundle.j3] at h⟩
 | k + 1 => by
  obtain ⟨ih0, ih1, ih2, ih3⟩ := impl_ValidBundle.mono_l k
  refine ⟨?_, ?_, ?_, ?_⟩
  ·intro y0 y1 y2 y3 y4
   unfold impl_ValidBundle.l0
   repeat' first
   | (with_reducible exact ih0 _ _ _ _ _)
   | (with_reducible exact ih1 _ _ _ _ _ _ _ _)
   | (with_reducible exact ih2 _ _ _ _ _ _ _ _ _)
   | (with_reducible exact ih3 _ _ _ _ _ _ _ _ _ _)
   | (with_reducible exact LeO.refl _)
   | (with_reducible exact LeO.none _)
   | (with_reducible refine LeO.ite ?_ ?_)
   | (with_reducible refine LeO.bind ?_ (fun _ => ?_))
   | exact ih0 _ _ _ _ _
   | exact ih1 _ _ _ _ _ _ _ _
   | exact ih2 _ _ _ _ _ _ _ _ _
   | exact ih3 _ _ _ _ _ _ _ _ _ _
   | exact LeO.none _
   | refine LeO.ite ?_ ?_
   | refine LeO.bind ?_ (fun _ => ?_)
  ·intro y0 y1 y2 y3 y4 y5 y6 y7
   unfold impl_ValidBundle.j1
   repeat' first
   | (with_reducible exact ih0 _ _ _ _ _)
   | (with_reducible exact ih1 _ _ _ _ _ _ _ _)
   | (with_reducible exact ih2 _ _ _ _ _ _ _ _ _)
   | (with_reducible exact ih3 _ _ _ _ _ _ _ _ _ _)
   | (with_reducible exact LeO.refl _)
   | (with_reducible exact LeO.none _)
   | (with_reducible refine LeO.ite ?_ ?_)
   | (with_reducible refine LeO.bind ?_ (fun _ => ?_))
   | exact ih0 _ _ _ _ _
   | exact ih1 _ _ _ _ _ _ _ _
   | exact ih2 _ _ _ _ _ _ _ _ _
   | exact ih3 _ _ _ _ _ _ _ _ _ _
   | exact LeO.none _
   | refine LeO.ite ?_ ?_
   | refine LeO.bind ?_ (fun _ => ?_)
  ·intro y0 y1 y2 y3 y4 y5 y6 y7 y8
   unfold impl_ValidBundle.l1
   repeat' first
   | (with_reducible exact ih0 _ _ _ _ _)
   | (with_reducible exact ih1 _ _ _ _ _ _ _ _)
   | (with_reducible exact ih2 _ _ _ _ _ _ _ _ _)
   | (with_reducible exact ih3 _ _ _ _ _ _ _ _ _ _)
   | (with_reducible exact LeO.refl _)
   | (with_reducible exact LeO.none _)
   | (with_reducible refine LeO.ite ?_ ?_)
   | (with_reducible refine LeO.bind ?_ (fun _ => ?_))
   | exact ih0 _ _ _ _ _
   | exact ih1 _ _ _ _ _ _ _ _
   | exact ih2 _ _ _ _ _ _ _ _ _
   | exact ih3 _ _ _ _ _ _ _ _ _ _
   | exact LeO.none _
   | refine LeO.ite ?_ ?_
   | refine LeO.bind ?_ (fun _ => ?_)
  ·intro y0 y1 y2 y3 y4 y5 y6 y7 y8 y9
   unfold impl_ValidBundle.j3
   repeat' first
   | (with_reducible exact ih0 _ _ _ _ _)
   | (with_reducible exact ih1 _ _ _ _ _ _ _ _)
   | (with_reducible exact ih2 _ _ _ _ _ _ _ _ _)
   | (with_reducible exact ih3 _ _ _ _ _ _ _ _ _ _)
   | (with_reducible exact LeO.refl _)
   | (with_reducible exact LeO.none _)
   | (with_reducible refine LeO.ite ?_ ?_)
   | (with_reducible refine LeO.bind ?_ (fun _ => ?_))
   | exact ih0 _ _ _ _ _
   | exact ih1 _ _ _ _ _ _ _ _
   | exact ih2 _ _ _ _ _ _ _ _ _
   | exact ih3 _ _ _ _ _ _ _ _ _ _
   | exact LeO.none _
   | refine LeO.ite ?_ ?_
   | refine LeO.bind ?_ (fun _ => ?_)
theorem impl_ValidBundle.mono : ∀ a0 k, LeO (impl_ValidBundle.f k a0) (impl_ValidBundle.f (k + 1) a0) := by
 intro a0 k
 obtain ⟨ih0, ih1, ih2, ih3⟩ := impl_ValidBundle.mono_l k
 unfold impl_ValidBundle.f
 repeat' first
   | (with_reducible exact ih0 _ _ _ _ _)
   | (with_reducible exact ih1 _ _ _ _ _ _ _ _)
   | (with_reducible exact ih2 _ _ _ _ _ _ _ _ _)
   | (with_reducible exact ih3 _ _ _ _ _ _ _ _ _ _)
   | (with_reducible exact LeO.refl _)
   | (with_reducible exact LeO.none _)
   | (with_reducible refine LeO.ite ?_ ?_)
   | (with_reducible refine LeO.bind ?_ (fun _ => ?_))
   | exact ih0 _ _ _ _ _
   | exact ih1 _ _ _ _ _ _ _ _
   | exact ih2 _ _ _ _ _ _ _ _ _
   | exact ih3 _ _ _ _ _ _ _ _ _ _
   | exact LeO.none _
   | refine LeO.ite ?_ ?_
   | refine LeO.bind ?_ (fun _ => ?_)
set_option maxHeartbeats 2000000 in
set_option maxRecDepth 100000 in
theorem impl_ValidBundle.calls (k : Nat) (A0_0 : Option Addr) (c0_0 : Nat) (l0_0 : List (List Int)) (r : Bool) (w : World) (hr0_0 : Kd.C (Kd.slice 2 (Kd.int .i64)) w A0_0 l0_0.length l0_0) (hc0_0 : l0_0.length ≤ c0_0) (h : impl_ValidBundle.f k l0_0 = some r) :
  Calls Try.prog 54 #[.agg #[.slice A0_0 l0_0.length c0_0]] w fun e w' => e = .returned (.bool r) ∧ Below w.heap.size w w' := by
 have hu44 := Try.underlying44
 have HR0_0 := Aside0.mk hr0_0
 have HC0_0 := Aside0.mk hc0_0
 clear hr0_0 hc0_0
 have HB := Aside0.mk (Below.refl w.heap.size w)
 have H : ((impl_in.f (l0_0.length : Int) 1 9).bind fun t353 => (if t353 = true then (impl_ValidBundle.l0 k (l0_0.length : Int) l0_0 (l0_0.length : Int) 0 l0_0) else (some false))) = some r := h
 clear h
 replace H := Option.bind_eq_some_iff.mp H
 obtain ⟨t353, A20, H⟩ := H
 replace H : (if t353 = true then (impl_ValidBundle.l0 k (l0_0.length : Int) l0_0 (l0_0.length : Int) 0 l0_0) else (some false)) = some r := H
 have A2 := Aside0.mk A20
 clear A20
 by_cases c3 : t353 = true
 ·subst c3
  have H1 : (impl_ValidBundle.l0 k (l0_0.length : Int) l0_0 (l0_0.length : Int) 0 l0_0) = some r := by rw [if_pos rfl] at H; exact H
  clear H
  have H := H1
  clear H1
  have H' := Aside0.mk H
  clear H
  go_enter Try.func54, Try.ntmps54
  go_wp2_with (first | ((with_reducible refine gate_dst (N := 1) rfl ?_); (try (refine gate_guard (by rfl) ?_; dsimp only)); refine box_event ?hg (N := 1) ?hd (cs := #[.slice A0_0 l0_0.length c0_0]) (t := 44) ?hr ?_; (case hd => rfl); (case hg => rfl); (case hr => first | (go_simp; done) | (go_simp; rfl)); intro gb352 hg w4 hbox hb; have n0_ := Aside0.mk (below_step (by repeat (first | (with_reducible first | exact HB.out | apply below_alloc | apply pw_below_drewN | apply below_drew1) | exact HB.out)) hb); have n1_ := Aside0.mk (hbox); have n2_ := Aside0.mk ((by rw [hg]; exact (below_size (by repeat (first | (with_reducible first | exact HB.out | apply below_alloc | apply pw_below_drewN | apply below_drew1) | exact HB.out))) : w.heap.size ≤ gb352)); have n3_ := Aside0.mk ((by rw [hg]; exact (below_size (by repeat (first | (with_reducible first | exact HB.out | apply below_alloc | apply pw_below_drewN | apply below_drew1) | exact HB.out))) : w.heap.size ≤ gb352)); clear HB; have HB := n0_; have BK352 := n1_; have GW352 := n2_; have GE352 := n3_; clear n0_ n1_ n2_ n3_; clear hb hbox hg; have hcz5_0 : w4.cell? ⟨gb352, 0, none⟩ = some (.slice A0_0 l0_0.length c0_0) := (blk_cell BK352.out 0).trans rfl; have hfz5_0 := blk_frozen BK352.out 0) | ((with_reducible refine gate_callee (f := 64) rfl ?_); refine goesL_ (some 12) rfl rfl Try.func64 (by kernel_rfl) rfl #[.int .i64 (l0_0.length : Int), .int .i64 1, .int .i64 9] rfl (by (try simp only [List.map_toArray, List.map_cons, List.map_nil]); first | done | rfl | (simp only [List.length_drop, List.length_take]; rfl)) ?_; (with_reducible refine (impl_in.calls (l0_0.length : Int) 1 9 true _ A2.out).mono ?_); rintro e w' ⟨rfl, ⟨nd, rfl⟩⟩; refine ⟨_, rfl, ?_⟩))
  go_loopg [17] k (fun kq v17 w' => ∃ (x17_1 : Int), v17 = .int .i64 x17_1 ∧ Aside0 (impl_ValidBundle.l0 kq (l0_0.length : Int) l0_0 (l0_0.length : Int) x17_1 l0_0 = some r) ∧ Aside0 (kq ≤ k) ∧ Aside0 (w'.heap[gb352]? = some (.cells #[(.slice A0_0 l0_0.length c0_0)] 44 (0, 0))) ∧ Aside0 (Below w.heap.size w w'))
  case atStart => exact ⟨(0), (by first | rfl | (simp; done) | (simp [*]; done)), H', ⟨Nat.le_refl _⟩, ⟨by (with_reducible repeat first | refine b_N ?_ _ | refine b_D ?_ | refine b_A ?_ _); exact BK352.out⟩, ⟨by repeat (first | (with_reducible first | exact HB.out | apply below_alloc | apply pw_below_drewN | apply below_drew1) | exact HB.out)⟩⟩
  case round =>
   clear H'
   try clear p2
   try clear c3
   try clear c5
   try clear hcz5_0
   try clear hfz5_0
   obtain ⟨x17_1, rfl, HA, HK1, BK352, HB⟩ := hrel
   cases gk with
   | zero => exact absurd HA.out (by simp [impl_ValidBundle.l0])
   | succ k1 =>
    have H := HA.out
    clear HA
    simp only [impl_ValidBundle.l0] at H
    by_cases c6 : x17_1 < (l0_0.length : Int)
    ·rw [if_pos c6] at H
     have c6b0 : decide (x17_1 < (l0_0.length : Int)) = true := decide_eq_true c6
     clear c6
     by_cases c7 : 0 ≤ x17_1
     ·rw [if_pos c7] at H
      have c7b0 : decide (0 ≤ x17_1) = true := decide_eq_true c7
      clear c7
      by_cases c8 : x17_1 < (l0_0.length : Int)
      ·rw [if_pos c8] at H
       have c8b0 : decide (x17_1 < (l0_0.length : Int)) = true := decide_eq_true c8
       clear c8
       have HC9 := Aside0.mk H
       clear H
       have p354 : 0 ≤ (x17_1 : Int) := of_decide_eq_true (by first | (with_reducible assumption) | assumption)
       have q354 : x17_1 < (l0_0.length : Int) := of_decide_eq_true (by first | (with_reducible assumption) | assumption)
       obtain ⟨ad354, A354_0, c354_0, e354, hx354_0, hl354_0, hi354_0⟩ := at_Ls2 HR0_0.out x17_1 p354 q354
       cases e354
       replace hx354_0 := (HB.out.cell (World.block_lt_of_cell? w _ hx354_0)).trans hx354_0
       have HR354_0 := Aside0.mk hi354_0
       have HC354_0 := Aside0.mk hl354_0
       clear hi354_0 hl354_0
       replace p354 := eq_true p354
       replace q354 := eq_true q354
       go_upto_region 7 with (fail)
       go_cut [32] (fun v32 wc => ∃ (kq : Nat) (x32_8 : Bool), v32 = .bool x32_8 ∧ Aside0 (impl_ValidBundle.j1 kq (l0_0.length : Int) x17_1 (rd_Ls2 l0_0 x17_1) l0_0 (l0_0.length : Int) x17_1 x32_8 l0_0 = some r) ∧ Aside0 (kq ≤ k1) ∧ Aside0 (wc.heap[gb352]? = some (.cells #[(.slice (some ad354) l0_0.length c0_0)] 44 (0, 0))) ∧ Aside0 (Below w.heap.size w wc))
       case first =>
        have H := HC9.out
        clear HC9
        by_cases c10 : ((rd_Ls2 l0_0 x17_1).length : Int) = (l0_0.length : Int)
        ·rw [if_pos c10] at H
         have c10b0 : (((rd_Ls2 l0_0 x17_1).length : Int) == (l0_0.length : Int)) = true := beq_iff_eq.mpr c10
         have c10b1 : (((rd_Ls2 l0_0 x17_1).length : Int) != (l0_0.length : Int)) = false := bne_eq_false_iff_eq.mpr c10
         have c10b2 : ((rd_Ls2 l0_0 x17_1).length == l0_0.length) = true := by first | simpa using c10 | (simp at c10 ⊢; omega)
         clear c10
         (first | rw [c10b0] | (simp only [i64_w, i32_w]; rw [c10b0]) | skip)
         by_cases c11 : x17_1 < ((rd_Ls2 l0_0 x17_1).length : Int)
         ·rw [if_pos c11] at H
          have c11b0 : decide (x17_1 < ((rd_Ls2 l0_0 x17_1).length : Int)) = true := decide_eq_true c11
          clear c11
          have H' := Aside0.mk H
          clear H
          have p355 : 0 ≤ (x17_1 : Int) := of_decide_eq_true (by first | (with_reducible assumption) | assumption)
          have q355 : x17_1 < ((rd_Ls2 l0_0 x17_1).length : Int) := of_decide_eq_true (by first | (with_reducible assumption) | assumption)
          obtain ⟨ad355, e355, hx355_0⟩ := Kd.at_int HR354_0.out x17_1 p355 q355
          cases e355
          replace hx355_0 := (HB.out.cell (World.block_lt_of_cell? w _ hx355_0)).trans hx355_0
          replace p355 := eq_true p355
          replace q355 := eq_true q355
          go_wp2
          go_meet
          case rel => exact ⟨_, (((rd (rd_Ls2 l0_0 x17_1) x17_1) != 0)), (by first | rfl | (simp; done) | (simp [*]; done)), H', ⟨by have := HK1.out; first | omega | exact Nat.le_refl _⟩, ⟨by (with_reducible repeat first | refine b_N ?_ _ | refine b_D ?_ | refine b_A ?_ _); exact BK352.out⟩, ⟨by repeat (first | (with_reducible first | exact HB.out | apply below_alloc | apply pw_below_drewN | apply below_drew1) | exact HB.out)⟩⟩
         ·rw [if_neg c11] at H
          exact absurd H (by simp)
        ·rw [if_neg c10] at H
         have c10b0 : (((rd_Ls2 l0_0 x17_1).length : Int) == (l0_0.length : Int)) = false := beq_eq_false_iff_ne.mpr c10
         have c10b1 : (((rd_Ls2 l0_0 x17_1).length : Int) != (l0_0.length : Int)) = true := bne_iff_ne.mpr c10
         have c10b2 : ((rd_Ls2 l0_0 x17_1).length == l0_0.length) = false := by first | simpa using c10 | (simp at c10 ⊢; omega)
         (first | rw [c10b0] | (simp only [i64_w, i32_w]; rw [c10b0]) | skip)
         have H' := Aside0.mk H
         clear H
         go_wp2
         go_meet
         case rel => exact ⟨_, (true), (by first | rfl | (simp; done) | (simp [*]; done)), H', ⟨by have := HK1.out; first | omega | exact Nat.le_refl _⟩, ⟨by (with_reducible repeat first | refine b_N ?_ _ | refine b_D ?_ | refine b_A ?_ _); exact BK352.out⟩, ⟨by repeat (first | (with_reducible first | exact HB.out | apply below_alloc | apply pw_below_drewN | apply below_drew1) | exact HB.out)⟩⟩
       case rest =>
        clear HC9
        try clear c1
        try clear p2
        try clear c3
        try clear p3
        try clear q3
        try clear hx3
        try clear c5
        try clear c6
        try clear c6b0
        try clear c7
        try clear c7b0
        try clear c8
        try clear c8b0
        try clear c10
        try clear c10b0
        try clear c10b1
        try clear c10b2
        try clear c11
        try clear c11b0
        try clear hcz5_0
        try clear hfz5_0
        try clear hx354_0
        try clear hx355_0
        try clear p2
        try clear p354
        try clear p355
        try clear q354
        try clear q355
        obtain ⟨kq, x32_8, rfl, HA, HJ8, BK352, HB⟩ := hcut
        cases kq with
        | zero => exact absurd HA.out (by simp [impl_ValidBundle.j1])
        | succ kj8 =>
         have H := HA.out
         clear HA
         simp only [impl_ValidBundle.j1] at H
         by_cases c12 : x32_8 = true
         ·subst c12
          have H1 : (some false) = some r := by rw [if_pos rfl] at H; exact H
          clear H
          have H := H1
          clear H1
          obtain rfl := Option.some.inj H
          go_wp2
          go_ret
          exact ⟨by first | rfl | (simp [errW_none, errW_some] <;> rfl) | (simp [*, errW_none, errW_some] <;> rfl), by repeat (first | (with_reducible first | exact HB.out | apply below_alloc | apply pw_below_drewN | apply below_drew1) | exact HB.out)⟩
         ·replace c12 := Bool.eq_false_iff.mpr c12
          subst c12
          have H1 : (impl_ValidBundle.l1 kj8 (l0_0.length : Int) x17_1 l0_0 (l0_0.length : Int) x17_1 (rd_Ls2 l0_0 x17_1) ((rd_Ls2 l0_0 x17_1).length : Int) 0 l0_0) = some r := by rw [if_neg (show ¬ (false = true) by decide)] at H; exact H
          clear H
          have H := H1
          clear H1
          have H' := Aside0.mk H
          clear H
          go_wp2
          go_loopg [35] kj8 (fun kq v35 w' => ∃ (x35_3 : Int), v35 = .int .i64 x35_3 ∧ Aside0 (impl_ValidBundle.l1 kq (l0_0.length : Int) x17_1 l0_0 (l0_0.length : Int) x17_1 (rd_Ls2 l0_0 x17_1) ((rd_Ls2 l0_0 x17_1).length : Int) x35_3 l0_0 = some r) ∧ Aside0 (kq ≤ kj8) ∧ Aside0 (w'.heap[gb352]? = some (.cells #[(.slice (some ad354) l0_0.length c0_0)] 44 (0, 0))) ∧ Aside0 (Below w.heap.size w w'))
          case atStart => exact ⟨(0), (by first | rfl | (simp; done) | (simp [*]; done)), H', ⟨Nat.le_refl _⟩, ⟨by (with_reducible repeat first | refine b_N ?_ _ | refine b_D ?_ | refine b_A ?_ _); exact BK352.out⟩, ⟨by repeat (first | (with_reducible first | exact HB.out | apply below_alloc | apply pw_below_drewN | apply below_drew1) | exact HB.out)⟩⟩
          case round =>
           clear H'
           try clear c1
           try clear p2
           try clear c3
           try clear p3
           try clear q3
           try clear hx3
           try clear c5
           try clear c6
           try clear c6b0
           try clear c7
           try clear c7b0
           try clear c8
           try clear c8b0
           try clear c10
           try clear c10b0
           try clear c10b1
           try clear c10b2
           try clear c11
           try clear c11b0
           try clear c12
           try clear hcz5_0
           try clear hfz5_0
           try clear hx354_0
           try clear hx355_0
           try clear p2
           try clear p3
           try clear p354
           try clear p355
           try clear q3
           try clear q354
           try clear q355
           obtain ⟨x35_3, rfl, HA, HK3, BK352, HB⟩ := hrel
           cases gk with
           | zero => exact absurd HA.out (by simp [impl_ValidBundle.l1])
           | succ k3 =>
            have H := HA.out
            clear HA
            simp only [impl_ValidBundle.l1] at H
            by_cases c13 : x35_3 < ((rd_Ls2 l0_0 x17_1).length : Int)
            ·rw [if_pos c13] at H
             have c13b0 : decide (x35_3 < ((rd_Ls2 l0_0 x17_1).length : Int)) = true := decide_eq_true c13
             clear c13
             by_cases c14 : 0 ≤ x35_3
             ·rw [if_pos c14] at H
              have c14b0 : decide (0 ≤ x35_3) = true := decide_eq_true c14
              clear c14
              by_cases c15 : x35_3 < ((rd_Ls2 l0_0 x17_1).length : Int)
              ·rw [if_pos c15] at H
               have c15b0 : decide (x35_3 < ((rd_Ls2 l0_0 x17_1).length : Int)) = true := decide_eq_true c15
               clear c15
               have HC16 := Aside0.mk H
               clear H
               have p356 : 0 ≤ (x35_3 : Int) := of_decide_eq_true (by first | (with_reducible assumption) | assumption)
               have q356 : x35_3 < ((rd_Ls2 l0_0 x17_1).length : Int) := of_decide_eq_true (by first | (with_reducible assumption) | assumption)
               obtain ⟨ad356, e356, hx356_0⟩ := Kd.at_int HR354_0.out x35_3 p356 q356
               cases e356
               replace hx356_0 := (HB.out.cell (World.block_lt_of_cell? w _ hx356_0)).trans hx356_0
               replace p356 := eq_true p356
               replace q356 := eq_true q356
               go_upto_region 12 with (fail)
               go_cut [64] (fun v64 wc => ∃ (kq : Nat) (x64_15 : Bool), v64 = .bool x64_15 ∧ Aside0 (impl_ValidBundle.j3 kq (l0_0.length : Int) x17_1 l0_0 (l0_0.length : Int) x17_1 (rd_Ls2 l0_0 x17_1) ((rd_Ls2 l0_0 x17_1).length : Int) x35_3 x64_15 l0_0 = some r) ∧ Aside0 (kq ≤ k3) ∧ Aside0 (wc.heap[gb352]? = some (.cells #[(.slice (some ad354) l0_0.length c0_0)] 44 (0, 0))) ∧ Aside0 (Below w.heap.size w wc))
               case first =>
                have H := HC16.out
                clear HC16
                replace H := Option.bind_eq_some_iff.mp H
                obtain ⟨t357, A170, H⟩ := H
                replace H : (if t357 = true then (if x35_3 < (l0_0.length : Int) then (if ((rd_Ls2 l0_0 x35_3).length : Int) = (l0_0.length : Int) then (if 0 ≤ x17_1 then (if x17_1 < ((rd_Ls2 l0_0 x35_3).length : Int) then (impl_ValidBundle.j3 k3 (l0_0.length : Int) x17_1 l0_0 (l0_0.length : Int) x17_1 (rd_Ls2 l0_0 x17_1) ((rd_Ls2 l0_0 x17_1).length : Int) x35_3 ((rd (rd_Ls2 l0_0 x35_3) x17_1) != (rd (rd_Ls2 l0_0 x17_1) x35_3)) l0_0) else (none)) else (none)) else (impl_ValidBundle.j3 k3 (l0_0.length : Int) x17_1 l0_0 (l0_0.length : Int) x17_1 (rd_Ls2 l0_0 x17_1) ((rd_Ls2 l0_0 x17_1).length : Int) x35_3 true l0_0)) else (none)) else (impl_ValidBundle.j3 k3 (l0_0.length : Int) x17_1 l0_0 (l0_0.length : Int) x17_1 (rd_Ls2 l0_0 x17_1) ((rd_Ls2 l0_0 x17_1).length : Int) x35_3 true l0_0)) = some r := H
                have A17 := Aside0.mk A170
                clear A170
                by_cases c18 : t357 = true
                ·subst c18
                 have H1 : (if x35_3 < (l0_0.length : Int) then (if ((rd_Ls2 l0_0 x35_3).length : Int) = (l0_0.length : Int) then (if 0 ≤ x17_1 then (if x17_1 < ((rd_Ls2 l0_0 x35_3).length : Int) then (impl_ValidBundle.j3 k3 (l0_0.length : Int) x17_1 l0_0 (l0_0.length : Int) x17_1 (rd_Ls2 l0_0 x17_1) ((rd_Ls2 l0_0 x17_1).length : Int) x35_3 ((rd (rd_Ls2 l0_0 x35_3) x17_1) != (rd (rd_Ls2 l0_0 x17_1) x35_3)) l0_0) else (none)) else (none)) else (impl_ValidBundle.j3 k3 (l0_0.length : Int) x17_1 l0_0 (l0_0.length : Int) x17_1 (rd_Ls2 l0_0 x17_1) ((rd_Ls2 l0_0 x17_1).length : Int) x35_3 true l0_0)) else (none)) = some r := by rw [if_pos rfl] at H; exact H
                 clear H
                 have H := H1
                 clear H1
                 by_cases c19 : x35_3 < (l0_0.length : Int)
                 ·rw [if_pos c19] at H
                  have c19b0 : decide (x35_3 < (l0_0.length : Int)) = true := decide_eq_true c19
                  clear c19
                  (first | rw [c19b0] | (simp only [i64_w, i32_w]; rw [c19b0]) | skip)
                  by_cases c20 : ((rd_Ls2 l0_0 x35_3).length : Int) = (l0_0.length : Int)
                  ·rw [if_pos c20] at H
                   have c20b0 : (((rd_Ls2 l0_0 x35_3).length : Int) == (l0_0.length : Int)) = true := beq_iff_eq.mpr c20
                   have c20b1 : (((rd_Ls2 l0_0 x35_3).length : Int) != (l0_0.length : Int)) = false := bne_eq_false_iff_eq.mpr c20
                   have c20b2 : ((rd_Ls2 l0_0 x35_3).length == l0_0.length) = true := by first | simpa using c20 | (simp at c20 ⊢; omega)
                   clear c20
                   by_cases c21 : 0 ≤ x17_1
                   ·rw [if_pos c21] at H
                    have c21b0 : decide (0 ≤ x17_1) = true := decide_eq_true c21
                    clear c21
                    by_cases c22 : x17_1 < ((rd_Ls2 l0_0 x35_3).length : Int)
                    ·rw [if_pos c22] at H
                     have c22b0 : decide (x17_1 < ((rd_Ls2 l0_0 x35_3).length : Int)) = true := decide_eq_true c22
                     clear c22
                     have H' := Aside0.mk H
                     clear H
                     go_wp2_with (first | ((with_reducible refine gate_callee (f := 64) rfl ?_); refine goesL_ (some 41) rfl rfl Try.func64 (by kernel_rfl) rfl #[.int .i64 (rd (rd_Ls2 l0_0 x17_1) x35_3), .int .i64 0, .int .i64 1000] rfl (by (try simp only [List.map_toArray, List.map_cons, List.map_nil]); first | done | rfl | (simp only [List.length_drop, List.length_take]; rfl)) ?_; (with_reducible refine (impl_in.calls (rd (rd_Ls2 l0_0 x17_1) x35_3) 0 1000 true _ A17.out).mono ?_); rintro e w' ⟨rfl, ⟨nd, rfl⟩⟩; refine ⟨_, rfl, ?_⟩; have hcz23_0 : wr.cell? ⟨gb352, 0, none⟩ = some (.slice (some ad354) l0_0.length c0_0) := (blk_cell BK352.out 0).trans rfl; have hfz23_0 := blk_frozen BK352.out 0; have p358 : 0 ≤ (x35_3 : Int) := of_decide_eq_true (by first | (with_reducible assumption) | assumption); have q358 : x35_3 < (l0_0.length : Int) := of_decide_eq_true (by first | (with_reducible assumption) | assumption); obtain ⟨ad358, A358_0, c358_0, e358, hx358_0, hl358_0, hi358_0⟩ := at_Ls2 HR0_0.out x35_3 p358 q358; obtain rfl : ad354 = ad358 := (by injection e358); replace hx358_0 := (HB.out.cell (World.block_lt_of_cell? w _ hx358_0)).trans hx358_0; have HR358_0 := Aside0.mk hi358_0; have HC358_0 := Aside0.mk hl358_0; clear hi358_0 hl358_0; replace p358 := eq_true p358; replace q358 := eq_true q358; have p359 : 0 ≤ (x35_3 : Int) := of_decide_eq_true (by first | (with_reducible assumption) | assumption); have q359 : x35_3 < (l0_0.length : Int) := of_decide_eq_true (by first | (with_reducible assumption) | assumption); obtain ⟨ad359, A359_0, c359_0, e359, hx359_0, hl359_0, hi359_0⟩ := at_Ls2 HR0_0.out x35_3 p359 q359; obtain rfl : ad354 = ad359 := (by injection e359); replace hx359_0 := (HB.out.cell (World.block_lt_of_cell? w _ hx359_0)).trans hx359_0; have HR359_0 := Aside0.mk hi359_0; have HC359_0 := Aside0.mk hl359_0; clear hi359_0 hl359_0; replace p359 := eq_true p359; replace q359 := eq_true q359; have ea_ := Option.some.inj (hx358_0.symm.trans hx359_0); injection ea_ with ea_ en_ ec_; subst ea_; subst ec_; clear en_; have p360 : 0 ≤ (x17_1 : Int) := of_decide_eq_true (by first | (with_reducible assumption) | assumption); have q360 : x17_1 < ((rd_Ls2 l0_0 x35_3).length : Int) := of_decide_eq_true (by first | (with_reducible assumption) | assumption); obtain ⟨ad360, e360, hx360_0⟩ := Kd.at_int HR359_0.out x17_1 p360 q360; cases e360; replace hx360_0 := (HB.out.cell (World.block_lt_of_cell? w _ hx360_0)).trans hx360_0; replace p360 := eq_true p360; replace q360 := eq_true q360))
                     go_meet
                     case rel => exact ⟨_, (((rd (rd_Ls2 l0_0 x35_3) x17_1) != (rd (rd_Ls2 l0_0 x17_1) x35_3))), (by first | rfl | (simp; done) | (simp [*]; done)), H', ⟨by have := HK1.out; have := HJ8.out; have := HK3.out; first | omega | exact Nat.le_refl _⟩, ⟨by (with_reducible repeat first | refine b_N ?_ _ | refine b_D ?_ | refine b_A ?_ _); exact BK352.out⟩, ⟨by repeat (first | (with_reducible first | exact HB.out | apply below_alloc | apply pw_below_drewN | apply below_drew1) | exact HB.out)⟩⟩
                    ·rw [if_neg c22] at H
                     exact absurd H (by simp)
                   ·rw [if_neg c21] at H
                    exact absurd H (by simp)
                  ·rw [if_neg c20] at H
                   have c20b0 : (((rd_Ls2 l0_0 x35_3).length : Int) == (l0_0.length : Int)) = false := beq_eq_false_iff_ne.mpr c20
                   have c20b1 : (((rd_Ls2 l0_0 x35_3).length : Int) != (l0_0.length : Int)) = true := bne_iff_ne.mpr c20
                   have c20b2 : ((rd_Ls2 l0_0 x35_3).length == l0_0.length) = false := by first | simpa using c20 | (simp at c20 ⊢; omega)
                   have H' := Aside0.mk H
                   clear H
                   go_wp2_with (first | ((with_reducible refine gate_callee (f := 64) rfl ?_); refine goesL_ (some 41) rfl rfl Try.func64 (by kernel_rfl) rfl #[.int .i64 (rd (rd_Ls2 l0_0 x17_1) x35_3), .int .i64 0, .int .i64 1000] rfl (by (try simp only [List.map_toArray, List.map_cons, List.map_nil]); first | done | rfl | (simp only [List.length_drop, List.length_take]; rfl)) ?_; (with_reducible refine (impl_in.calls (rd (rd_Ls2 l0_0 x17_1) x35_3) 0 1000 true _ A17.out).mono ?_); rintro e w' ⟨rfl, ⟨nd, rfl⟩⟩; refine ⟨_, rfl, ?_⟩; have hcz24_0 : wr.cell? ⟨gb352, 0, none⟩ = some (.slice (some ad354) l0_0.length c0_0) := (blk_cell BK352.out 0).trans rfl; have hfz24_0 := blk_frozen BK352.out 0; have p358 : 0 ≤ (x35_3 : Int) := of_decide_eq_true (by first | (with_reducible assumption) | assumption); have q358 : x35_3 < (l0_0.length : Int) := of_decide_eq_true (by first | (with_reducible assumption) | assumption); obtain ⟨ad358, A358_0, c358_0, e358, hx358_0, hl358_0, hi358_0⟩ := at_Ls2 HR0_0.out x35_3 p358 q358; obtain rfl : ad354 = ad358 := (by injection e358); replace hx358_0 := (HB.out.cell (World.block_lt_of_cell? w _ hx358_0)).trans hx358_0; have HR358_0 := Aside0.mk hi358_0; have HC358_0 := Aside0.mk hl358_0; clear hi358_0 hl358_0; replace p358 := eq_true p358; replace q358 := eq_true q358))
                   go_meet
                   case rel => exact ⟨_, (true), (by first | rfl | (simp; done) | (simp [*]; done)), H', ⟨by have := HK1.out; have := HJ8.out; have := HK3.out; first | omega | exact Nat.le_refl _⟩, ⟨by (with_reducible repeat first | refine b_N ?_ _ | refine b_D ?_ | refine b_A ?_ _); exact BK352.out⟩, ⟨by repeat (first | (with_reducible first | exact HB.out | apply below_alloc | apply pw_below_drewN | apply below_drew1) | exact HB.out)⟩⟩
                 ·rw [if_neg c19] at H
                  exact absurd H (by simp)
                ·replace c18 := Bool.eq_false_iff.mpr c18
                 subst c18
                 have H1 : (impl_ValidBundle.j3 k3 (l0_0.length : Int) x17_1 l0_0 (l0_0.length : Int) x17_1 (rd_Ls2 l0_0 x17_1) ((rd_Ls2 l0_0 x17_1).length : Int) x35_3 true l0_0) = some r := by rw [if_neg (show ¬ (false = true) by decide)] at H; exact H
                 clear H
                 have H := H1
                 clear H1
                 have H' := Aside0.mk H
                 clear H
                 go_wp2_with (first | ((with_reducible refine gate_callee (f := 64) rfl ?_); refine goesL_ (some 41) rfl rfl Try.func64 (by kernel_rfl) rfl #[.int .i64 (rd (rd_Ls2 l0_0 x17_1) x35_3), .int .i64 0, .int .i64 1000] rfl (by (try simp only [List.map_toArray, List.map_cons, List.map_nil]); first | done | rfl | (simp only [List.length_drop, List.length_take]; rfl)) ?_; (with_reducible refine (impl_in.calls (rd (rd_Ls2 l0_0 x17_1) x35_3) 0 1000 false _ A17.out).mono ?_); rintro e w' ⟨rfl, ⟨nd, rfl⟩⟩; refine ⟨_, rfl, ?_⟩))
                 go_meet
                 case rel => exact ⟨_, (true), (by first | rfl | (simp; done) | (simp [*]; done)), H', ⟨by have := HK1.out; have := HJ8.out; have := HK3.out; first | omega | exact Nat.le_refl _⟩, ⟨by (with_reducible repeat first | refine b_N ?_ _ | refine b_D ?_ | refine b_A ?_ _); exact BK352.out⟩, ⟨by repeat (first | (with_reducible first | exact HB.out | apply below_alloc | apply pw_below_drewN | apply below_drew1) | exact HB.out)⟩⟩
               case rest =>
                clear HC16
                try clear c1
                try clear c2
                try clear p2
                try clear c3
                try clear p3
                try clear q3
                try clear hx3
                try clear c5
                try clear c6
                try clear c6b0
                try clear c7
                try clear c7b0
                try clear c8
                try clear c8b0
                try clear c10
                try clear c10b0
                try clear c10b1
                try clear c10b2
                try clear c11
                try clear c11b0
                try clear c12
                try clear c13
                try clear c13b0
                try clear c14
                try clear c14b0
                try clear c15
                try clear c15b0
                try clear c18
                try clear c19
                try clear c19b0
                try clear c20
                try clear c20b0
                try clear c20b1
                try clear c20b2
                try clear c21
                try clear c21b0
                try clear c22
                try clear c22b0
                try clear hcz23_0
                try clear hcz24_0
                try clear hcz5_0
                try clear hfz23_0
                try clear hfz24_0
                try clear hfz5_0
                try clear hx354_0
                try clear hx355_0
                try clear hx356_0
                try clear hx358_0
                try clear hx359_0
                try clear hx360_0
                try clear p2
                try clear p3
                try clear p354
                try clear p355
                try clear p356
                try clear p358
                try clear p359
                try clear p360
                try clear q3
                try clear q354
                try clear q355
                try clear q356
                try clear q358
                try clear q359
                try clear q360
                obtain ⟨kq, x64_15, rfl, HA, HJ15, BK352, HB⟩ := hcut
                cases kq with
                | zero => exact absurd HA.out (by simp [impl_ValidBundle.j3])
                | succ kj15 =>
                 have H := HA.out
                 clear HA
                 simp only [impl_ValidBundle.j3] at H
                 by_cases c25 : x64_15 = true
                 ·subst c25
                  have H1 : (some false) = some r := by rw [if_pos rfl] at H; exact H
                  clear H
                  have H := H1
                  clear H1
                  obtain rfl := Option.some.inj H
                  go_wp2
                  go_ret
                  exact ⟨by first | rfl | (simp [errW_none, errW_some] <;> rfl) | (simp [*, errW_none, errW_some] <;> rfl), by repeat (first | (with_reducible first | exact HB.out | apply below_alloc | apply pw_below_drewN | apply below_drew1) | exact HB.out)⟩
                 ·replace c25 := Bool.eq_false_iff.mpr c25
                  subst c25
                  have H1 : (impl_ValidBundle.l1 kj15 (l0_0.length : Int) x17_1 l0_0 (l0_0.length : Int) x17_1 (rd_Ls2 l0_0 x17_1) ((rd_Ls2 l0_0 x17_1).length : Int) (wrap64 (x35_3 + 1)) l0_0) = some r := by rw [if_neg (show ¬ (false = true) by decide)] at H; exact H
                  clear H
                  have H := H1
                  clear H1
                  have H' := Aside0.mk H
                  clear H
                  go_wp2
                  go_roundg kj15
                  case measure => have := HK1.out; have := HJ8.out; have := HK3.out; have := HJ15.out; omega
                  case rel => exact ⟨(wrap64 (x35_3 + 1)), (by first | rfl | (simp; done) | (simp [*]; done)), H', ⟨by have := HK1.out; have := HJ8.out; have := HK3.out; have := HJ15.out; omega⟩, ⟨by (with_reducible repeat first | refine b_N ?_ _ | refine b_D ?_ | refine b_A ?_ _); exact BK352.out⟩, ⟨by repeat (first | (with_reducible first | exact HB.out | apply below_alloc | apply pw_below_drewN | apply below_drew1) | exact HB.out)⟩⟩
              ·rw [if_neg c15] at H
               exact absurd H (by simp)
             ·rw [if_neg c14] at H
              exact absurd H (by simp)
            ·rw [if_neg c13] at H
             have c13b0 : decide (x35_3 < ((rd_Ls2 l0_0 x17_1).length : Int)) = false := decide_eq_false c13
             clear c13
             have H' := Aside0.mk H
             clear H
             go_wp2
             go_roundg k3
             case measure => have := HK1.out; have := HJ8.out; have := HK3.out; omega
             case rel => exact ⟨(wrap64 (x17_1 + 1)), (by first | rfl | (simp; done) | (simp [*]; done)), H', ⟨by have := HK1.out; have := HJ8.out; have := HK3.out; omega⟩, ⟨by (with_reducible repeat first | refine b_N ?_ _ | refine b_D ?_ | refine b_A ?_ _); exact BK352.out⟩, ⟨by repeat (first | (with_reducible first | exact HB.out | apply below_alloc | apply pw_below_drewN | apply below_drew1) | exact HB.out)⟩⟩
      ·rw [if_neg c8] at H
       exact absurd H (by simp)
     ·rw [if_neg c7] at H
      exact absurd H (by simp)
    ·rw [if_neg c6] at H
     have c6b0 : decide (x17_1 < (l0_0.length : Int)) = false := decide_eq_false c6
     clear c6
     obtain rfl := Option.some.inj H
     go_wp2
     go_ret
     exact ⟨by first | rfl | (simp [errW_none, errW_some] <;> rfl) | (simp [*, errW_none, errW_some] <;> rfl), by repeat (first | (with_reducible first | exact HB.out | apply below_alloc | apply pw_below_drewN | apply below_drew1) | exact HB.out)⟩
 ·replace c3 := Bool.eq_false_iff.mpr c3
  subst c3
  have H1 : (some false) = some r := by rw [if_neg (show ¬ (false = true) by decide)] at H; exact H
  clear H
  have H := H1
  clear H1
  obtain rfl := Option.some.inj H
  go_enter Try.func54, Try.ntmps54
  go_wp2_with (first | ((with_reducible refine gate_dst (N := 1) rfl ?_); (try (refine gate_guard (by rfl) ?_; dsimp only)); refine box_event ?hg (N := 1) ?hd (cs := #[.slice A0_0 l0_0.length c0_0]) (t := 44) ?hr ?_; (case hd => rfl); (case hg => rfl); (case hr => first | (go_simp; done) | (go_simp; rfl)); intro gb352 hg w26 hbox hb; have n0_ := Aside0.mk (below_step (by repeat (first | (with_reducible first | exact HB.out | apply below_alloc | apply pw_below_drewN | apply below_drew1) | exact HB.out)) hb); have n1_ := Aside0.mk (hbox); have n2_ := Aside0.mk ((by rw [hg]; exact (below_size (by repeat (first | (with_reducible first | exact HB.out | apply below_alloc | apply pw_below_drewN | apply below_drew1) | exact HB.out))) : w.heap.size ≤ gb352)); have n3_ := Aside0.mk ((by rw [hg]; exact (below_size (by repeat (first | (with_reducible first | exact HB.out | apply below_alloc | apply pw_below_drewN | apply below_drew1) | exact HB.out))) : w.heap.size ≤ gb352)); clear HB; have HB := n0_; have BK352 := n1_; have GW352 := n2_; have GE352 := n3_; clear n0_ n1_ n2_ n3_; clear hb hbox hg; have hcz27_0 : w26.cell? ⟨gb352, 0, none⟩ = some (.slice A0_0 l0_0.length c0_0) := (blk_cell BK352.out 0).trans rfl; have hfz27_0 := blk_frozen BK352.out 0) | ((with_reducible refine gate_callee (f := 64) rfl ?_); refine goesL_ (some 12) rfl rfl Try.func64 (by kernel_rfl) rfl #[.int .i64 (l0_0.length : Int), .int .i64 1, .int .i64 9] rfl (by (try simp only [List.map_toArray, List.map_cons, List.map_nil]); first | done | rfl | (simp only [List.length_drop, List.length_take]; rfl)) ?_; (with_reducible refine (impl_in.calls (l0_0.length : Int) 1 9 false _ A2.out).mono ?_); rintro e w' ⟨rfl, ⟨nd, rfl⟩⟩; refine ⟨_, rfl, ?_⟩))
  go_ret
  exact ⟨by first | rfl | (simp [errW_none, errW_some] <;> rfl) | (simp [*, errW_none, errW_some] <;> rfl), by repeat (first | (with_reducible first | exact HB.out | apply below_alloc | apply pw_below_drewN | apply below_drew1) | exact HB.out)⟩

end Go.Proofs.Ytaapbnhggfmlpaa.P
