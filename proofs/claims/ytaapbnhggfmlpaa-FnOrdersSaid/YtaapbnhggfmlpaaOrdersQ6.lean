/- Lemmas and contracts of functions, part 6 of 7, for this law: The law FnOrders holds for every input: the best order has its coupling with the best shields, no drawn order has a lesser one with as many nor comes before it with the same, and without shields it is at least the tree bound. -/
import Derived.Test.YtaapbnhggfmlpaaOrdersQ1
import Derived.Test.YtaapbnhggfmlpaaOrdersQ2
import Derived.Test.YtaapbnhggfmlpaaOrdersQ3
import Derived.Test.YtaapbnhggfmlpaaOrdersQ4
import Derived.Test.YtaapbnhggfmlpaaOrdersQ5
import Derived.Laws.BitsLemmas
section
namespace Go.Proofs.Ytaapbnhggfmlpaa.P
open Go.RowKit Go.Proofs.YtaapbnhggfmlpaaW.PrintWords Go.Proofs.YtaapbnhggfmlpaaW.PrintLast Go.Proofs.YtaapbnhggfmlpaaW.PrintMore
attribute [local go_sem] max2_int min2_int max_two min_two max_three min_three max_four min_four   -- for this text's walks alone
set_option linter.unusedVariables false
set_option linter.unusedSimpArgs false

/-! ### laws_FnOrders: function 10 -/
def laws_FnOrders.j0 : Nat → Int → List Int → Int → List Int → Int → Int → Bool → Option (Bool)
 | 0, _, _, _, _, _, _, _ => none
 | k + 1, x7, x8, x9, x16, x18, x20, x121 => if x121 = true then (some false) else (if x18 = x9 then ((laws_r8Before.f k x16 x8).bind fun t1012 => (if t1012 = true then (some false) else (if x7 > 0 then (some true) else (some (decide (x20 ≤ x9)))))) else (if x7 > 0 then (some true) else (some (decide (x20 ≤ x9)))))
def laws_FnOrders.f (k : Nat) (l0 : List Int) (l1 : List Int) : Option (Bool) := (laws_r8Long.f l0 l1).bind fun t982 => (if t982 = true then (some true) else ((spec_R8Bundle.f k l0).bind fun t983 => ((laws_r8At.f l1 40 (t983.length : Int)).bind fun t987 => ((impl_BestOrder.f t983 t987).bind fun bt988 => ((impl_BestShields.f k t983 bt988.1 t987).bind fun bt993 => ((impl_CouplingOf.f k t983 bt988.1 bt993.1).bind fun bt998 => ((spec_R8Order.f k l1 (t983.length : Int)).bind fun t1000 => ((impl_BestShields.f k t983 t1000 t987).bind fun bt1003 => ((impl_TreeBound.f t983).bind fun bt1008 => (if bt988.2.2 = true then (if bt993.2.2 = true then (if bt998.2 = true then (if bt1003.2.2 = true then (if bt1008.2 = true then (if bt993.2.1 = bt988.2.1 then (if bt998.1 = bt993.2.1 then (if bt1003.2.1 < bt988.2.1 then (laws_FnOrders.j0 k t987 bt988.1 bt988.2.1 t1000 bt1003.2.1 bt1008.1 true) else (if (bt993.1.length : Int) = t987 then ((impl_ValidBundle.f k t983).bind fun t1010 => (if t1010 = true then ((impl_IsLayout.f k t983 bt988.1 bt993.1).bind fun t1011 => (laws_FnOrders.j0 k t987 bt988.1 bt988.2.1 t1000 bt1003.2.1 bt1008.1 (!t1011))) else (laws_FnOrders.j0 k t987 bt988.1 bt988.2.1 t1000 bt1003.2.1 bt1008.1 true))) else (laws_FnOrders.j0 k t987 bt988.1 bt988.2.1 t1000 bt1003.2.1 bt1008.1 true))) else (laws_FnOrders.j0 k t987 bt988.1 bt988.2.1 t1000 bt1003.2.1 bt1008.1 true)) else (laws_FnOrders.j0 k t987 bt988.1 bt988.2.1 t1000 bt1003.2.1 bt1008.1 true)) else (laws_FnOrders.j0 k t987 bt988.1 bt988.2.1 t1000 bt1003.2.1 bt1008.1 true)) else (laws_FnOrders.j0 k t987 bt988.1 bt988.2.1 t1000 bt1003.2.1 bt1008.1 true)) else (laws_FnOrders.j0 k t987 bt988.1 bt988.2.1 t1000 bt1003.2.1 bt1008.1 true)) else (laws_FnOrders.j0 k t987 bt988.1 bt988.2.1 t1000 bt1003.2.1 bt1008.1 true)) else (laws_FnOrders.j0 k t987 bt988.1 bt988.2.1 t1000 bt1003.2.1 bt1008.1 true)))))))))))
theorem laws_FnOrders.mono_l : ∀ k, (∀ y0 y1 y2 y3 y4 y5 y6, LeO (laws_FnOrders.j0 k y0 y1 y2 y3 y4 y5 y6) (laws_FnOrders.j0 (k + 1) y0 y1 y2 y3 y4 y5 y6))
 | 0 => fun _ _ _ _ _ _ _ r h => by simp [laws_FnOrders.j0] at h
 | k + 1 => by
  have ih0 := laws_FnOrders.mono_l k
  ·intro y0 y1 y2 y3 y4 y5 y6
   unfold laws_FnOrders.j0
   repeat' first
   | (with_reducible exact ih0 _ _ _ _ _ _ _)
   | (with_reducible exact impl_BestShields.mono _ _ _ _)
   | (with_reducible exact impl_CouplingOf.mono _ _ _ _)
   | (with_reducible exact impl_IsLayout.mono _ _ _ _)
   | (with_reducible exact impl_ValidBundle.mono _ _)
   | (with_reducible exact laws_r8Before.mono _ _ _)
   | (with_reducible exact spec_R8Bundle.mono _ _)
   | (with_reducible exact spec_R8Order.mono _ _ _)
   | (with_reducible exact LeO.refl _)
   | (with_reducible exact LeO.none _)
   | (with_reducible refine LeO.ite ?_ ?_)
   | (with_reducible refine LeO.bind ?_ (fun _ => ?_))
   | exact ih0 _ _ _ _ _ _ _
   | exact impl_BestShields.mono _ _ _ _
   | exact impl_CouplingOf.mono _ _ _ _
   | exact impl_IsLayout.mono _ _ _ _
   | exact impl_ValidBundle.mono _ _
   | exact laws_r8Before.mono _ _ _
   | exact spec_R8Bundle.mono _ _
   | exact spec_R8Order.mono _ _ _
   | exact LeO.none _
   | refine LeO.ite ?_ ?_
   | refine LeO.bind ?_ (fun _ => ?_)
theorem laws_FnOrders.mono : ∀ a0 a1 k, LeO (laws_FnOrders.f k a0 a1) (laws_FnOrders.f (k + 1) a0 a1) := by
 intro a0 a1 k
 have ih0 := laws_FnOrders.mono_l k
 unfold laws_FnOrders.f
 repeat' first
   | (with_reducible exact ih0 _ _ _ _ _ _ _)
   | (with_reducible exact impl_BestShields.mono _ _ _ _)
   | (with_reducible exact impl_CouplingOf.mono _ _ _ _)
   | (with_reducible exact impl_IsLayout.mono _ _ _ _)
   | (with_reducible exact impl_ValidBundle.mono _ _)
   | (with_reducible exact laws_r8Before.mono _ _ _)
   | (with_reducible exact spec_R8Bundle.mono _ _)
   | (with_reducible exact spec_R8Order.mono _ _ _)
   | (with_reducible exact LeO.refl _)
   | (with_reducible exact LeO.none _)
   | (with_reducible refine LeO.ite ?_ ?_)
   | (with_reducible refine LeO.bind ?_ (fun _ => ?_))
   | exact ih0 _ _ _ _ _ _ _
   | exact impl_BestShields.mono _ _ _ _
   | exact impl_CouplingOf.mono _ _ _ _
   | exact impl_IsLayout.mono _ _ _ _
   | exact impl_ValidBundle.mono _ _
   | exact laws_r8Before.mono _ _ _
   | exact spec_R8Bundle.mono _ _
   | exact spec_R8Order.mono _ _ _
   | exact LeO.none _
   | refine LeO.ite ?_ ?_
   | refine LeO.bind ?_ (fun _ => ?_)
set_option maxHeartbeats 4000000 in
set_option maxRecDepth 100000 in
theorem laws_FnOrders.calls (k : Nat) (A0 : Option Addr) (c0 : Nat) (l0 : List Int) (A1 : Option Addr) (c1 : Nat) (l1 : List Int) (r : Bool) (w : World) (hr0 : Kd.C (Kd.int .u8) w A0 l0.length l0) (hc0 : l0.length ≤ c0) (hr1 : Kd.C (Kd.int .u8) w A1 l1.length l1) (hc1 : l1.length ≤ c1) (h : laws_FnOrders.f k l0 l1 = some r) :
  Calls Try.prog 10 #[.slice A0 l0.length c0, .slice A1 l1.length c1] w fun e w' => e = .returned (.bool r) ∧ Below w.heap.size w w' := by
 have hu44 := Try.underlying44
 have HR0 := Aside0.mk hr0
 have HC0 := Aside0.mk hc0
 clear hr0 hc0
 have HR1 := Aside0.mk hr1
 have HC1 := Aside0.mk hc1
 clear hr1 hc1
 have HB := Aside0.mk (Below.refl w.heap.size w)
 have H : ((laws_r8Long.f l0 l1).bind fun t982 => (if t982 = true then (some true) else ((spec_R8Bundle.f k l0).bind fun t983 => ((laws_r8At.f l1 40 (t983.length : Int)).bind fun t987 => ((impl_BestOrder.f t983 t987).bind fun bt988 => ((impl_BestShields.f k t983 bt988.1 t987).bind fun bt993 => ((impl_CouplingOf.f k t983 bt988.1 bt993.1).bind fun bt998 => ((spec_R8Order.f k l1 (t983.length : Int)).bind fun t1000 => ((impl_BestShields.f k t983 t1000 t987).bind fun bt1003 => ((impl_TreeBound.f t983).bind fun bt1008 => (if bt988.2.2 = true then (if bt993.2.2 = true then (if bt998.2 = true then (if bt1003.2.2 = true then (if bt1008.2 = true then (if bt993.2.1 = bt988.2.1 then (if bt998.1 = bt993.2.1 then (if bt1003.2.1 < bt988.2.1 then (laws_FnOrders.j0 k t987 bt988.1 bt988.2.1 t1000 bt1003.2.1 bt1008.1 true) else (if (bt993.1.length : Int) = t987 then ((impl_ValidBundle.f k t983).bind fun t1010 => (if t1010 = true then ((impl_IsLayout.f k t983 bt988.1 bt993.1).bind fun t1011 => (laws_FnOrders.j0 k t987 bt988.1 bt988.2.1 t1000 bt1003.2.1 bt1008.1 (!t1011))) else (laws_FnOrders.j0 k t987 bt988.1 bt988.2.1 t1000 bt1003.2.1 bt1008.1 true))) else (laws_FnOrders.j0 k t987 bt988.1 bt988.2.1 t1000 bt1003.2.1 bt1008.1 true))) else (laws_FnOrders.j0 k t987 bt988.1 bt988.2.1 t1000 bt1003.2.1 bt1008.1 true)) else (laws_FnOrders.j0 k t987 bt988.1 bt988.2.1 t1000 bt1003.2.1 bt1008.1 true)) else (laws_FnOrders.j0 k t987 bt988.1 bt988.2.1 t1000 bt1003.2.1 bt1008.1 true)) else (laws_FnOrders.j0 k t987 bt988.1 bt988.2.1 t1000 bt1003.2.1 bt1008.1 true)) else (laws_FnOrders.j0 k t987 bt988.1 bt988.2.1 t1000 bt1003.2.1 bt1008.1 true)) else (laws_FnOrders.j0 k t987 bt988.1 bt988.2.1 t1000 bt1003.2.1 bt1008.1 true)) else (laws_FnOrders.j0 k t987 bt988.1 bt988.2.1 t1000 bt1003.2.1 bt1008.1 true)))))))))))) = some r := h
 clear h
 replace H := Option.bind_eq_some_iff.mp H
 obtain ⟨t982, A30, H⟩ := H
 replace H : (if t982 = true then (some true) else ((spec_R8Bundle.f k l0).bind fun t983 => ((laws_r8At.f l1 40 (t983.length : Int)).bind fun t987 => ((impl_BestOrder.f t983 t987).bind fun bt988 => ((impl_BestShields.f k t983 bt988.1 t987).bind fun bt993 => ((impl_CouplingOf.f k t983 bt988.1 bt993.1).bind fun bt998 => ((spec_R8Order.f k l1 (t983.length : Int)).bind fun t1000 => ((impl_BestShields.f k t983 t1000 t987).bind fun bt1003 => ((impl_TreeBound.f t983).bind fun bt1008 => (if bt988.2.2 = true then (if bt993.2.2 = true then (if bt998.2 = true then (if bt1003.2.2 = true then (if bt1008.2 = true then (if bt993.2.1 = bt988.2.1 then (if bt998.1 = bt993.2.1 then (if bt1003.2.1 < bt988.2.1 then (laws_FnOrders.j0 k t987 bt988.1 bt988.2.1 t1000 bt1003.2.1 bt1008.1 true) else (if (bt993.1.length : Int) = t987 then ((impl_ValidBundle.f k t983).bind fun t1010 => (if t1010 = true then ((impl_IsLayout.f k t983 bt988.1 bt993.1).bind fun t1011 => (laws_FnOrders.j0 k t987 bt988.1 bt988.2.1 t1000 bt1003.2.1 bt1008.1 (!t1011))) else (laws_FnOrders.j0 k t987 bt988.1 bt988.2.1 t1000 bt1003.2.1 bt1008.1 true))) else (laws_FnOrders.j0 k t987 bt988.1 bt988.2.1 t1000 bt1003.2.1 bt1008.1 true))) else (laws_FnOrders.j0 k t987 bt988.1 bt988.2.1 t1000 bt1003.2.1 bt1008.1 true)) else (laws_FnOrders.j0 k t987 bt988.1 bt988.2.1 t1000 bt1003.2.1 bt1008.1 true)) else (laws_FnOrders.j0 k t987 bt988.1 bt988.2.1 t1000 bt1003.2.1 bt1008.1 true)) else (laws_FnOrders.j0 k t987 bt988.1 bt988.2.1 t1000 bt1003.2.1 bt1008.1 true)) else (laws_FnOrders.j0 k t987 bt988.1 bt988.2.1 t1000 bt1003.2.1 bt1008.1 true)) else (laws_FnOrders.j0 k t987 bt988.1 bt988.2.1 t1000 bt1003.2.1 bt1008.1 true)) else (laws_FnOrders.j0 k t987 bt988.1 bt988.2.1 t1000 bt1003.2.1 bt1008.1 true))))))))))) = some r := H
 have A3 := Aside0.mk A30
 clear A30
 by_cases c4 : t982 = true
 ·subst c4
  have H1 : (some true) = some r := by rw [if_pos rfl] at H; exact H
  clear H
  have H := H1
  clear H1
  obtain rfl := Option.some.inj H
  go_enter Try.func10, Try.ntmps10
  go_wp2_with (first | ((with_reducible refine gate_callee (f := 35) rfl ?_); refine goesL_ (some 24) rfl rfl Try.func35 (by kernel_rfl) rfl #[.slice A0 l0.length c0, .slice A1 l1.length c1] rfl (by (try simp only [List.map_toArray, List.map_cons, List.map_nil]); first | done | rfl | (simp only [List.length_drop, List.length_take]; rfl)) ?_; (with_reducible refine (laws_r8Long.calls _ _ l0 _ _ l1 true _ ?side1 ?side2 ?side3 ?side4 A3.out).mono ?_); (case side1 => repeat (first | exact HR0.out | (with_reducible refine Kd.C_alloc ?_ _) | (with_reducible refine Kd.C_drewN ?_ _) | (with_reducible refine Kd.C_drew ?_))); (case side2 => exact HC0.out); (case side3 => repeat (first | exact HR1.out | (with_reducible refine Kd.C_alloc ?_ _) | (with_reducible refine Kd.C_drewN ?_ _) | (with_reducible refine Kd.C_drew ?_))); (case side4 => exact HC1.out); rintro e w' ⟨rfl, ⟨nd, rfl⟩⟩; refine ⟨_, rfl, ?_⟩))
  go_ret
  exact ⟨by first | rfl | (simp [errW_none, errW_some] <;> rfl) | (simp [*, errW_none, errW_some] <;> rfl), by repeat (first | (with_reducible first | exact HB.out | apply below_alloc | apply pw_below_drewN | apply below_drew1) | exact HB.out)⟩
 ·replace c4 := Bool.eq_false_iff.mpr c4
  subst c4
  have H1 : ((spec_R8Bundle.f k l0).bind fun t983 => ((laws_r8At.f l1 40 (t983.length : Int)).bind fun t987 => ((impl_BestOrder.f t983 t987).bind fun bt988 => ((impl_BestShields.f k t983 bt988.1 t987).bind fun bt993 => ((impl_CouplingOf.f k t983 bt988.1 bt993.1).bind fun bt998 => ((spec_R8Order.f k l1 (t983.length : Int)).bind fun t1000 => ((impl_BestShields.f k t983 t1000 t987).bind fun bt1003 => ((impl_TreeBound.f t983).bind fun bt1008 => (if bt988.2.2 = true then (if bt993.2.2 = true then (if bt998.2 = true then (if bt1003.2.2 = true then (if bt1008.2 = true then (if bt993.2.1 = bt988.2.1 then (if bt998.1 = bt993.2.1 then (if bt1003.2.1 < bt988.2.1 then (laws_FnOrders.j0 k t987 bt988.1 bt988.2.1 t1000 bt1003.2.1 bt1008.1 true) else (if (bt993.1.length : Int) = t987 then ((impl_ValidBundle.f k t983).bind fun t1010 => (if t1010 = true then ((impl_IsLayout.f k t983 bt988.1 bt993.1).bind fun t1011 => (laws_FnOrders.j0 k t987 bt988.1 bt988.2.1 t1000 bt1003.2.1 bt1008.1 (!t1011))) else (laws_FnOrders.j0 k t987 bt988.1 bt988.2.1 t1000 bt1003.2.1 bt1008.1 true))) else (laws_FnOrders.j0 k t987 bt988.1 bt988.2.1 t1000 bt1003.2.1 bt1008.1 true))) else (laws_FnOrders.j0 k t987 bt988.1 bt988.2.1 t1000 bt1003.2.1 bt1008.1 true)) else (laws_FnOrders.j0 k t987 bt988.1 bt988.2.1 t1000 bt1003.2.1 bt1008.1 true)) else (laws_FnOrders.j0 k t987 bt988.1 bt988.2.1 t1000 bt1003.2.1 bt1008.1 true)) else (laws_FnOrders.j0 k t987 bt988.1 bt988.2.1 t1000 bt1003.2.1 bt1008.1 true)) else (laws_FnOrders.j0 k t987 bt988.1 bt988.2.1 t1000 bt1003.2.1 bt1008.1 true)) else (laws_FnOrders.j0 k t987 bt988.1 bt988.2.1 t1000 bt1003.2.1 bt1008.1 true)) else (laws_FnOrders.j0 k t987 bt988.1 bt988.2.1 t1000 bt1003.2.1 bt1008.1 true)))))))))) = some r := by rw [if_neg (show ¬ (false = true) by decide)] at H; exact H
  clear H
  have H := H1
  clear H1
  replace H := Option.bind_eq_some_iff.mp H
  obtain ⟨t983, A50, H⟩ := H
  replace H : ((laws_r8At.f l1 40 (t983.length : Int)).bind fun t987 => ((impl_BestOrder.f t983 t987).bind fun bt988 => ((impl_BestShields.f k t983 bt988.1 t987).bind fun bt993 => ((impl_CouplingOf.f k t983 bt988.1 bt993.1).bind fun bt998 => ((spec_R8Order.f k l1 (t983.length : Int)).bind fun t1000 => ((impl_BestShields.f k t983 t1000 t987).bind fun bt1003 => ((impl_TreeBound.f t983).bind fun bt1008 => (if bt988.2.2 = true then (if bt993.2.2 = true then (if bt998.2 = true then (if bt1003.2.2 = true then (if bt1008.2 = true then (if bt993.2.1 = bt988.2.1 then (if bt998.1 = bt993.2.1 then (if bt1003.2.1 < bt988.2.1 then (laws_FnOrders.j0 k t987 bt988.1 bt988.2.1 t1000 bt1003.2.1 bt1008.1 true) else (if (bt993.1.length : Int) = t987 then ((impl_ValidBundle.f k t983).bind fun t1010 => (if t1010 = true then ((impl_IsLayout.f k t983 bt988.1 bt993.1).bind fun t1011 => (laws_FnOrders.j0 k t987 bt988.1 bt988.2.1 t1000 bt1003.2.1 bt1008.1 (!t1011))) else (laws_FnOrders.j0 k t987 bt988.1 bt988.2.1 t1000 bt1003.2.1 bt1008.1 true))) else (laws_FnOrders.j0 k t987 bt988.1 bt988.2.1 t1000 bt1003.2.1 bt1008.1 true))) else (laws_FnOrders.j0 k t987 bt988.1 bt988.2.1 t1000 bt1003.2.1 bt1008.1 true)) else (laws_FnOrders.j0 k t987 bt988.1 bt988.2.1 t1000 bt1003.2.1 bt1008.1 true)) else (laws_FnOrders.j0 k t987 bt988.1 bt988.2.1 t1000 bt1003.2.1 bt1008.1 true)) else (laws_FnOrders.j0 k t987 bt988.1 bt988.2.1 t1000 bt1003.2.1 bt1008.1 true)) else (laws_FnOrders.j0 k t987 bt988.1 bt988.2.1 t1000 bt1003.2.1 bt1008.1 true)) else (laws_FnOrders.j0 k t987 bt988.1 bt988.2.1 t1000 bt1003.2.1 bt1008.1 true)) else (laws_FnOrders.j0 k t987 bt988.1 bt988.2.1 t1000 bt1003.2.1 bt1008.1 true))))))))) = some r := H
  have A5 := Aside0.mk A50
  clear A50
  replace H := Option.bind_eq_some_iff.mp H
  obtain ⟨t987, A60, H⟩ := H
  replace H : ((impl_BestOrder.f t983 t987).bind fun bt988 => ((impl_BestShields.f k t983 bt988.1 t987).bind fun bt993 => ((impl_CouplingOf.f k t983 bt988.1 bt993.1).bind fun bt998 => ((spec_R8Order.f k l1 (t983.length : Int)).bind fun t1000 => ((impl_BestShields.f k t983 t1000 t987).bind fun bt1003 => ((impl_TreeBound.f t983).bind fun bt1008 => (if bt988.2.2 = true then (if bt993.2.2 = true then (if bt998.2 = true then (if bt1003.2.2 = true then (if bt1008.2 = true then (if bt993.2.1 = bt988.2.1 then (if bt998.1 = bt993.2.1 then (if bt1003.2.1 < bt988.2.1 then (laws_FnOrders.j0 k t987 bt988.1 bt988.2.1 t1000 bt1003.2.1 bt1008.1 true) else (if (bt993.1.length : Int) = t987 then ((impl_ValidBundle.f k t983).bind fun t1010 => (if t1010 = true then ((impl_IsLayout.f k t983 bt988.1 bt993.1).bind fun t1011 => (laws_FnOrders.j0 k t987 bt988.1 bt988.2.1 t1000 bt1003.2.1 bt1008.1 (!t1011))) else (laws_FnOrders.j0 k t987 bt988.1 bt988.2.1 t1000 bt1003.2.1 bt1008.1 true))) else (laws_FnOrders.j0 k t987 bt988.1 bt988.2.1 t1000 bt1003.2.1 bt1008.1 true))) else (laws_FnOrders.j0 k t987 bt988.1 bt988.2.1 t1000 bt1003.2.1 bt1008.1 true)) else (laws_FnOrders.j0 k t987 bt988.1 bt988.2.1 t1000 bt1003.2.1 bt1008.1 true)) else (laws_FnOrders.j0 k t987 bt988.1 bt988.2.1 t1000 bt1003.2.1 bt1008.1 true)) else (laws_FnOrders.j0 k t987 bt988.1 bt988.2.1 t1000 bt1003.2.1 bt1008.1 true)) else (laws_FnOrders.j0 k t987 bt988.1 bt988.2.1 t1000 bt1003.2.1 bt1008.1 true)) else (laws_FnOrders.j0 k t987 bt988.1 bt988.2.1 t1000 bt1003.2.1 bt1008.1 true)) else (laws_FnOrders.j0 k t987 bt988.1 bt988.2.1 t1000 bt1003.2.1 bt1008.1 true)))))))) = some r := H
  have A6 := Aside0.mk A60
  clear A60
  replace H := Option.bind_eq_some_iff.mp H
  obtain ⟨⟨t988, t991, t992⟩, A70, H⟩ := H
  replace H : ((impl_BestShields.f k t983 t988 t987).bind fun bt993 => ((impl_CouplingOf.f k t983 t988 bt993.1).bind fun bt998 => ((spec_R8Order.f k l1 (t983.length : Int)).bind fun t1000 => ((impl_BestShields.f k t983 t1000 t987).bind fun bt1003 => ((impl_TreeBound.f t983).bind fun bt1008 => (if t992 = true then (if bt993.2.2 = true then (if bt998.2 = true then (if bt1003.2.2 = true then (if bt1008.2 = true then (if bt993.2.1 = t991 then (if bt998.1 = bt993.2.1 then (if bt1003.2.1 < t991 then (laws_FnOrders.j0 k t987 t988 t991 t1000 bt1003.2.1 bt1008.1 true) else (if (bt993.1.length : Int) = t987 then ((impl_ValidBundle.f k t983).bind fun t1010 => (if t1010 = true then ((impl_IsLayout.f k t983 t988 bt993.1).bind fun t1011 => (laws_FnOrders.j0 k t987 t988 t991 t1000 bt1003.2.1 bt1008.1 (!t1011))) else (laws_FnOrders.j0 k t987 t988 t991 t1000 bt1003.2.1 bt1008.1 true))) else (laws_FnOrders.j0 k t987 t988 t991 t1000 bt1003.2.1 bt1008.1 true))) else (laws_FnOrders.j0 k t987 t988 t991 t1000 bt1003.2.1 bt1008.1 true)) else (laws_FnOrders.j0 k t987 t988 t991 t1000 bt1003.2.1 bt1008.1 true)) else (laws_FnOrders.j0 k t987 t988 t991 t1000 bt1003.2.1 bt1008.1 true)) else (laws_FnOrders.j0 k t987 t988 t991 t1000 bt1003.2.1 bt1008.1 true)) else (laws_FnOrders.j0 k t987 t988 t991 t1000 bt1003.2.1 bt1008.1 true)) else (laws_FnOrders.j0 k t987 t988 t991 t1000 bt1003.2.1 bt1008.1 true)) else (laws_FnOrders.j0 k t987 t988 t991 t1000 bt1003.2.1 bt1008.1 true))))))) = some r := H
  have A7 := Aside0.mk A70
  clear A70
  replace H := Option.bind_eq_some_iff.mp H
  obtain ⟨⟨t993, t996, t997⟩, A80, H⟩ := H
  replace H : ((impl_CouplingOf.f k t983 t988 t993).bind fun bt998 => ((spec_R8Order.f k l1 (t983.length : Int)).bind fun t1000 => ((impl_BestShields.f k t983 t1000 t987).bind fun bt1003 => ((impl_TreeBound.f t983).bind fun bt1008 => (if t992 = true then (if t997 = true then (if bt998.2 = true then (if bt1003.2.2 = true then (if bt1008.2 = true then (if t996 = t991 then (if bt998.1 = t996 then (if bt1003.2.1 < t991 then (laws_FnOrders.j0 k t987 t988 t991 t1000 bt1003.2.1 bt1008.1 true) else (if (t993.length : Int) = t987 then ((impl_ValidBundle.f k t983).bind fun t1010 => (if t1010 = true then ((impl_IsLayout.f k t983 t988 t993).bind fun t1011 => (laws_FnOrders.j0 k t987 t988 t991 t1000 bt1003.2.1 bt1008.1 (!t1011))) else (laws_FnOrders.j0 k t987 t988 t991 t1000 bt1003.2.1 bt1008.1 true))) else (laws_FnOrders.j0 k t987 t988 t991 t1000 bt1003.2.1 bt1008.1 true))) else (laws_FnOrders.j0 k t987 t988 t991 t1000 bt1003.2.1 bt1008.1 true)) else (laws_FnOrders.j0 k t987 t988 t991 t1000 bt1003.2.1 bt1008.1 true)) else (laws_FnOrders.j0 k t987 t988 t991 t1000 bt1003.2.1 bt1008.1 true)) else (laws_FnOrders.j0 k t987 t988 t991 t1000 bt1003.2.1 bt1008.1 true)) else (laws_FnOrders.j0 k t987 t988 t991 t1000 bt1003.2.1 bt1008.1 true)) else (laws_FnOrders.j0 k t987 t988 t991 t1000 bt1003.2.1 bt1008.1 true)) else (laws_FnOrders.j0 k t987 t988 t991 t1000 bt1003.2.1 bt1008.1 true)))))) = some r := H
  have A8 := Aside0.mk A80
  clear A80
  replace H := Option.bind_eq_some_iff.mp H
  obtain ⟨⟨t998, t999⟩, A90, H⟩ := H
  replace H : ((spec_R8Order.f k l1 (t983.length : Int)).bind fun t1000 => ((impl_BestShields.f k t983 t1000 t987).bind fun bt1003 => ((impl_TreeBound.f t983).bind fun bt1008 => (if t992 = true then (if t997 = true then (if t999 = true then (if bt1003.2.2 = true then (if bt1008.2 = true then (if t996 = t991 then (if t998 = t996 then (if bt1003.2.1 < t991 then (laws_FnOrders.j0 k t987 t988 t991 t1000 bt1003.2.1 bt1008.1 true) else (if (t993.length : Int) = t987 then ((impl_ValidBundle.f k t983).bind fun t1010 => (if t1010 = true then ((impl_IsLayout.f k t983 t988 t993).bind fun t1011 => (laws_FnOrders.j0 k t987 t988 t991 t1000 bt1003.2.1 bt1008.1 (!t1011))) else (laws_FnOrders.j0 k t987 t988 t991 t1000 bt1003.2.1 bt1008.1 true))) else (laws_FnOrders.j0 k t987 t988 t991 t1000 bt1003.2.1 bt1008.1 true))) else (laws_FnOrders.j0 k t987 t988 t991 t1000 bt1003.2.1 bt1008.1 true)) else (laws_FnOrders.j0 k t987 t988 t991 t1000 bt1003.2.1 bt1008.1 true)) else (laws_FnOrders.j0 k t987 t988 t991 t1000 bt1003.2.1 bt1008.1 true)) else (laws_FnOrders.j0 k t987 t988 t991 t1000 bt1003.2.1 bt1008.1 true)) else (laws_FnOrders.j0 k t987 t988 t991 t1000 bt1003.2.1 bt1008.1 true)) else (laws_FnOrders.j0 k t987 t988 t991 t1000 bt1003.2.1 bt1008.1 true)) else (laws_FnOrders.j0 k t987 t988 t991 t1000 bt1003.2.1 bt1008.1 true))))) = some r := H
  have A9 := Aside0.mk A90
  clear A90
  replace H := Option.bind_eq_some_iff.mp H
  obtain ⟨t1000, A100, H⟩ := H
  replace H : ((impl_BestShields.f k t983 t1000 t987).bind fun bt1003 => ((impl_TreeBound.f t983).bind fun bt1008 => (if t992 = true then (if t997 = true then (if t999 = true then (if bt1003.2.2 = true then (if bt1008.2 = true then (if t996 = t991 then (if t998 = t996 then (if bt1003.2.1 < t991 then (laws_FnOrders.j0 k t987 t988 t991 t1000 bt1003.2.1 bt1008.1 true) else (if (t993.length : Int) = t987 then ((impl_ValidBundle.f k t983).bind fun t1010 => (if t1010 = true then ((impl_IsLayout.f k t983 t988 t993).bind fun t1011 => (laws_FnOrders.j0 k t987 t988 t991 t1000 bt1003.2.1 bt1008.1 (!t1011))) else (laws_FnOrders.j0 k t987 t988 t991 t1000 bt1003.2.1 bt1008.1 true))) else (laws_FnOrders.j0 k t987 t988 t991 t1000 bt1003.2.1 bt1008.1 true))) else (laws_FnOrders.j0 k t987 t988 t991 t1000 bt1003.2.1 bt1008.1 true)) else (laws_FnOrders.j0 k t987 t988 t991 t1000 bt1003.2.1 bt1008.1 true)) else (laws_FnOrders.j0 k t987 t988 t991 t1000 bt1003.2.1 bt1008.1 true)) else (laws_FnOrders.j0 k t987 t988 t991 t1000 bt1003.2.1 bt1008.1 true)) else (laws_FnOrders.j0 k t987 t988 t991 t1000 bt1003.2.1 bt1008.1 true)) else (laws_FnOrders.j0 k t987 t988 t991 t1000 bt1003.2.1 bt1008.1 true)) else (laws_FnOrders.j0 k t987 t988 t991 t1000 bt1003.2.1 bt1008.1 true)))) = some r := H
  have A10 := Aside0.mk A100
  clear A100
  replace H := Option.bind_eq_some_iff.mp H
  obtain ⟨⟨t1003, t1006, t1007⟩, A110, H⟩ := H
  replace H : ((impl_TreeBound.f t983).bind fun bt1008 => (if t992 = true then (if t997 = true then (if t999 = true then (if t1007 = true then (if bt1008.2 = true then (if t996 = t991 then (if t998 = t996 then (if t1006 < t991 then (laws_FnOrders.j0 k t987 t988 t991 t1000 t1006 bt1008.1 true) else (if (t993.length : Int) = t987 then ((impl_ValidBundle.f k t983).bind fun t1010 => (if t1010 = true then ((impl_IsLayout.f k t983 t988 t993).bind fun t1011 => (laws_FnOrders.j0 k t987 t988 t991 t1000 t1006 bt1008.1 (!t1011))) else (laws_FnOrders.j0 k t987 t988 t991 t1000 t1006 bt1008.1 true))) else (laws_FnOrders.j0 k t987 t988 t991 t1000 t1006 bt1008.1 true))) else (laws_FnOrders.j0 k t987 t988 t991 t1000 t1006 bt1008.1 true)) else (laws_FnOrders.j0 k t987 t988 t991 t1000 t1006 bt1008.1 true)) else (laws_FnOrders.j0 k t987 t988 t991 t1000 t1006 bt1008.1 true)) else (laws_FnOrders.j0 k t987 t988 t991 t1000 t1006 bt1008.1 true)) else (laws_FnOrders.j0 k t987 t988 t991 t1000 t1006 bt1008.1 true)) else (laws_FnOrders.j0 k t987 t988 t991 t1000 t1006 bt1008.1 true)) else (laws_FnOrders.j0 k t987 t988 t991 t1000 t1006 bt1008.1 true))) = some r := H
  have A11 := Aside0.mk A110
  clear A110
  replace H := Option.bind_eq_some_iff.mp H
  obtain ⟨⟨t1008, t1009⟩, A120, H⟩ := H
  replace H : (if t992 = true then (if t997 = true then (if t999 = true then (if t1007 = true then (if t1009 = true then (if t996 = t991 then (if t998 = t996 then (if t1006 < t991 then (laws_FnOrders.j0 k t987 t988 t991 t1000 t1006 t1008 true) else (if (t993.length : Int) = t987 then ((impl_ValidBundle.f k t983).bind fun t1010 => (if t1010 = true then ((impl_IsLayout.f k t983 t988 t993).bind fun t1011 => (laws_FnOrders.j0 k t987 t988 t991 t1000 t1006 t1008 (!t1011))) else (laws_FnOrders.j0 k t987 t988 t991 t1000 t1006 t1008 true))) else (laws_FnOrders.j0 k t987 t988 t991 t1000 t1006 t1008 true))) else (laws_FnOrders.j0 k t987 t988 t991 t1000 t1006 t1008 true)) else (laws_FnOrders.j0 k t987 t988 t991 t1000 t1006 t1008 true)) else (laws_FnOrders.j0 k t987 t988 t991 t1000 t1006 t1008 true)) else (laws_FnOrders.j0 k t987 t988 t991 t1000 t1006 t1008 true)) else (laws_FnOrders.j0 k t987 t988 t991 t1000 t1006 t1008 true)) else (laws_FnOrders.j0 k t987 t988 t991 t1000 t1006 t1008 true)) else (laws_FnOrders.j0 k t987 t988 t991 t1000 t1006 t1008 true)) = some r := H
  have A12 := Aside0.mk A120
  clear A120
  have HC13 := Aside0.mk H
  clear H
  go_enter Try.func10, Try.ntmps10
  go_upto_region 12 with (first | ((with_reducible refine gate_callee (f := 35) rfl ?_); refine goesL_ (some 24) rfl rfl Try.func35 (by kernel_rfl) rfl #[.slice A0 l0.length c0, .slice A1 l1.length c1] rfl (by (try simp only [List.map_toArray, List.map_cons, List.map_nil]); first | done | rfl | (simp only [List.length_drop, List.length_take]; rfl)) ?_; (with_reducible refine (laws_r8Long.calls _ _ l0 _ _ l1 false _ ?side1 ?side2 ?side3 ?side4 A3.out).mono ?_); (case side1 => repeat (first | exact HR0.out | (with_reducible refine Kd.C_alloc ?_ _) | (with_reducible refine Kd.C_drewN ?_ _) | (with_reducible refine Kd.C_drew ?_))); (case side2 => exact HC0.out); (case side3 => repeat (first | exact HR1.out | (with_reducible refine Kd.C_alloc ?_ _) | (with_reducible refine Kd.C_drewN ?_ _) | (with_reducible refine Kd.C_drew ?_))); (case side4 => exact HC1.out); rintro e w' ⟨rfl, ⟨nd, rfl⟩⟩; refine ⟨_, rfl, ?_⟩) | ((with_reducible refine gate_callee (f := 36) rfl ?_); refine goesL_ (some 26) rfl rfl Try.func36 (by kernel_rfl) rfl #[.slice A0 l0.length c0] rfl (by (try simp only [List.map_toArray, List.map_cons, List.map_nil]); first | done | rfl | (simp only [List.length_drop, List.length_take]; rfl)) ?_; (with_reducible refine (spec_R8Bundle.calls k _ _ l0 t983 _ ?side1 ?side2 A5.out).mono ?_); (case side1 => repeat (first | exact HR0.out | (with_reducible refine Kd.C_alloc ?_ _) | (with_reducible refine Kd.C_drewN ?_ _) | (with_reducible refine Kd.C_drew ?_))); (case side2 => exact HC0.out); rintro e w14 ⟨v984, rfl, ho0, hb⟩; refine ⟨_, rfl, ?_⟩; have n0_ := Aside0.mk (Kd.S_lower ho0 (below_size (by repeat (first | (with_reducible first | exact HB.out | apply below_alloc | apply pw_below_drewN | apply below_drew1) | exact HB.out)))); have n1_ := Aside0.mk (below_step (by repeat (first | (with_reducible first | exact HB.out | apply below_alloc | apply pw_below_drewN | apply below_drew1) | exact HB.out)) hb); clear HB; have HO985 := n0_; have HB := n1_; clear n0_ n1_; (try clear hb); (try clear hb2); (try clear hk); (try clear hi); (try clear ho0)) | ((with_reducible refine gate_dst (N := 5) rfl ?_); (try (refine gate_guard (by rfl) ?_; dsimp only)); refine box_event ?hg (N := 5) ?hd (cs := #[.slice none 0 0]) (t := 44) ?hr ?_; (case hd => rfl); (case hg => rfl); (case hr => first | (go_simp; done) | (go_simp; rfl)); intro gb986 hg w15 hbox hb; have n0_ := Aside0.mk (Kd.S_below (by (with_reducible repeat (first | apply Kd.S_alloc | apply Kd.S_drewN | apply Kd.S_drew)); exact HO985.out) hb); have n1_ := Aside0.mk (below_step (by repeat (first | (with_reducible first | exact HB.out | apply below_alloc | apply pw_below_drewN | apply below_drew1) | exact HB.out)) hb); have n2_ := Aside0.mk (hbox); have n3_ := Aside0.mk ((by rw [hg]; exact (below_size (by repeat (first | (with_reducible first | exact HB.out | apply below_alloc | apply pw_below_drewN | apply below_drew1) | exact HB.out))) : w.heap.size ≤ gb986)); have n4_ := Aside0.mk ((by rw [hg]; exact (below_size (by repeat (first | (with_reducible first | exact HB.out | apply below_alloc | apply pw_below_drewN | apply below_drew1) | exact HB.out))) : w.heap.size ≤ gb986)); clear HO985; clear HB; have HO985 := n0_; have HB := n1_; have BK986 := n2_; have GW986 := n3_; have GE986 := n4_; clear n0_ n1_ n2_ n3_ n4_; clear hb hbox hg; obtain ⟨Ao16, co16, eo16⟩ := Kd.S_slice HO985.out; subst eo16; have hcz17_0 : w15.cell? ⟨gb986, 0, none⟩ = some (.slice none 0 0) := (blk_cell BK986.out 0).trans rfl; have hfz17_0 := blk_frozen BK986.out 0) | ((with_reducible refine gate_callee (f := 52) rfl ?_); refine goesL_ (some 32) rfl rfl Try.func52 (by kernel_rfl) rfl #[.slice A1 l1.length c1, .int .i64 40, .int .i64 (t983.length : Int)] rfl (by (try simp only [List.map_toArray, List.map_cons, List.map_nil]); first | done | rfl | (simp only [List.length_drop, List.length_take]; rfl)) ?_; (with_reducible refine (laws_r8At.calls _ _ l1 40 (t983.length : Int) t987 _ ?side1 ?side2 A6.out).mono ?_); (case side1 => exact Kd.C_below HR1.out (by repeat (first | (with_reducible first | exact HB.out | apply below_alloc | apply pw_below_drewN | apply below_drew1 | refine below_set ?_ GE986.out) | exact HB.out))); (case side2 => exact HC1.out); rintro e w' ⟨rfl, ⟨nd, rfl⟩⟩; refine ⟨_, rfl, ?_⟩) | ((with_reducible refine gate_callee (f := 40) rfl ?_); refine goesL_ (some 36) rfl rfl Try.func40 (by kernel_rfl) rfl #[.agg #[.slice Ao16 t983.length co16], .int .i64 t987] rfl (by (try simp only [List.map_toArray, List.map_cons, List.map_nil]); first | done | rfl | (simp only [List.length_drop, List.length_take]; rfl)) ?_; (with_reducible refine (impl_BestOrder.calls _ _ t983 t987 t988 t991 t992 _ ?side1 ?side2 A7.out).mono ?_); (case side1 => refine (Kd.S_reads' (e := 28) (base := w.heap.size) (ok := fun k_ => True) (n := t983.length) (c := co16) ?_).2.2; exact (by (with_reducible repeat (first | apply Kd.S_alloc | apply Kd.S_drewN | apply Kd.S_drew)); exact (Kd.S_mono (Kd.S_far (p := ⟨gb986, 0, none⟩) (Kd.S_types HO985.out BK986.out (by decide)) (fun _ hk => hk.2) (.slice Ao16 t983.length co16)) (fun _ h_ => h_.1)))); (case side2 => exact (Kd.S_reads' HO985.out).2.1); rintro e w18 ⟨v989, rfl, ho0, hb⟩; refine ⟨_, rfl, ?_⟩; have n0_ := Aside0.mk (Kd.S_elder' (by (with_reducible repeat (first | apply Kd.S_alloc | apply Kd.S_drewN | apply Kd.S_drew)); exact (Kd.S_mono (Kd.S_far (p := ⟨gb986, 0, none⟩) (Kd.S_types HO985.out BK986.out (by decide)) (fun _ hk => hk.2) (.slice Ao16 t983.length co16)) (fun _ h_ => h_.1))) (Kd.R_base ho0) hb); have n1_ := Aside0.mk (Kd.R_lower ho0 (below_size (by repeat (first | (with_reducible first | exact HB.out | apply below_alloc | apply pw_below_drewN | apply below_drew1 | refine below_set ?_ GE986.out) | exact HB.out)))); have n2_ := Aside0.mk (blk_below (g := gb986) (o := .cells #[.slice Ao16 t983.length co16] 44 (0, 0)) (by (with_reducible repeat first | refine b_N ?_ _ | refine b_D ?_ | refine b_A ?_ _); refine blk_put (cs := #[.slice none 0 0]) ?_ 0 _ rfl; (with_reducible repeat first | refine b_N ?_ _ | refine b_D ?_ | refine b_A ?_ _); exact BK986.out) hb); have n3_ := Aside0.mk (below_step (by repeat (first | (with_reducible first | exact HB.out | apply below_alloc | apply pw_below_drewN | apply below_drew1 | refine below_set ?_ GE986.out) | exact HB.out)) hb); clear HO985; clear BK986; clear HB; have HO985 := n0_; have HO990 := n1_; have BK986 := n2_; have HB := n3_; clear n0_ n1_ n2_ n3_; (try clear hb); (try clear hb2); (try clear hk); (try clear hi); (try clear ho0); have hcz19_0 : w18.cell? ⟨gb986, 0, none⟩ = some (.slice Ao16 t983.length co16) := (blk_cell BK986.out 0).trans rfl; have hfz19_0 := blk_frozen BK986.out 0; obtain ⟨Ao20, co20, eo20⟩ := Kd.R_slice HO990.out; subst eo20) | ((with_reducible refine gate_callee (f := 53) rfl ?_); refine goesL_ (some 44) rfl rfl Try.func53 (by kernel_rfl) rfl #[.agg #[.slice Ao16 t983.length co16], .slice Ao20 t988.length co20, .int .i64 t987] rfl (by (try simp only [List.map_toArray, List.map_cons, List.map_nil]); first | done | rfl | (simp only [List.length_drop, List.length_take]; rfl)) ?_; (with_reducible refine (impl_BestShields.calls k _ _ t983 _ _ t988 t987 t993 t996 t997 _ ?side1 ?side2 ?side3 ?side4 A8.out).mono ?_); (case side1 => repeat (first | exact (Kd.S_reads' HO985.out).2.2 | (with_reducible refine Kd.C_alloc ?_ _) | (with_reducible refine Kd.C_drewN ?_ _) | (with_reducible refine Kd.C_drew ?_))); (case side2 => exact (Kd.S_reads' HO985.out).2.1); (case side3 => repeat (first | exact (Kd.R_reads' HO990.out).2.2 | (with_reducible refine Kd.C_alloc ?_ _) | (with_reducible refine Kd.C_drewN ?_ _) | (with_reducible refine Kd.C_drew ?_))); (case side4 => exact (Kd.R_reads' HO990.out).2.1); rintro e w21 ⟨v994, rfl, ho0, hb⟩; refine ⟨_, rfl, ?_⟩; have n0_ := Aside0.mk (Kd.S_elder' (by (with_reducible repeat (first | apply Kd.S_alloc | apply Kd.S_drewN | apply Kd.S_drew)); exact HO985.out) (Kd.R_base ho0) hb); have n1_ := Aside0.mk (Kd.R_elder' (by (with_reducible repeat first | apply k_A | apply k_N | apply k_D); exact HO990.out) (Kd.R_base ho0) hb); have n2_ := Aside0.mk (Kd.R_lower (Kd.R_new' ho0 (Kd.R_lt (by (with_reducible repeat first | apply k_A | apply k_N | apply k_D); exact HO990.out))) (below_size (by repeat (first | (with_reducible first | exact HB.out | apply below_alloc | apply pw_below_drewN | apply below_drew1) | exact HB.out)))); have n3_ := Aside0.mk (blk_below (g := gb986) (o := .cells #[.slice Ao16 t983.length co16] 44 (0, 0)) (by (with_reducible repeat first | refine b_N ?_ _ | refine b_D ?_ | refine b_A ?_ _); exact BK986.out) hb); have n4_ := Aside0.mk (below_step (by repeat (first | (with_reducible first | exact HB.out | apply below_alloc | apply pw_below_drewN | apply below_drew1) | exact HB.out)) hb); clear HO985; clear HO990; clear BK986; clear HB; have HO985 := n0_; have HO990 := n1_; have HO995 := n2_; have BK986 := n3_; have HB := n4_; clear n0_ n1_ n2_ n3_ n4_; (try clear hb); (try clear hb2); (try clear hk); (try clear hi); (try clear ho0); have hcz22_0 : w21.cell? ⟨gb986, 0, none⟩ = some (.slice Ao16 t983.length co16) := (blk_cell BK986.out 0).trans rfl; have hfz22_0 := blk_frozen BK986.out 0; obtain ⟨Ao23, co23, eo23⟩ := Kd.R_slice HO995.out; subst eo23) | ((with_reducible refine gate_callee (f := 39) rfl ?_); refine goesL_ (some 52) rfl rfl Try.func39 (by kernel_rfl) rfl #[.agg #[.slice Ao16 t983.length co16], .slice Ao20 t988.length co20, .slice Ao23 t993.length co23] rfl (by (try simp only [List.map_toArray, List.map_cons, List.map_nil]); first | done | rfl | (simp only [List.length_drop, List.length_take]; rfl)) ?_; (with_reducible refine (impl_CouplingOf.calls k _ _ t983 _ _ t988 _ _ t993 t998 t999 _ ?side1 ?side2 ?side3 ?side4 ?side5 ?side6 A9.out).mono ?_); (case side1 => repeat (first | exact (Kd.S_reads' HO985.out).2.2 | (with_reducible refine Kd.C_alloc ?_ _) | (with_reducible refine Kd.C_drewN ?_ _) | (with_reducible refine Kd.C_drew ?_))); (case side2 => exact (Kd.S_reads' HO985.out).2.1); (case side3 => repeat (first | exact (Kd.R_reads' HO990.out).2.2 | (with_reducible refine Kd.C_alloc ?_ _) | (with_reducible refine Kd.C_drewN ?_ _) | (with_reducible refine Kd.C_drew ?_))); (case side4 => exact (Kd.R_reads' HO990.out).2.1); (case side5 => repeat (first | exact (Kd.R_reads' HO995.out).2.2 | (with_reducible refine Kd.C_alloc ?_ _) | (with_reducible refine Kd.C_drewN ?_ _) | (with_reducible refine Kd.C_drew ?_))); (case side6 => exact (Kd.R_reads' HO995.out).2.1); rintro e w24 ⟨rfl, hb⟩; refine ⟨_, rfl, ?_⟩; have n0_ := Aside0.mk (Kd.S_below (by (with_reducible repeat (first | apply Kd.S_alloc | apply Kd.S_drewN | apply Kd.S_drew)); exact HO985.out) hb); have n1_ := Aside0.mk (Kd.R_below (by (with_reducible repeat first | apply k_A | apply k_N | apply k_D); exact HO990.out) hb); have n2_ := Aside0.mk (Kd.R_below (by (with_reducible repeat first | apply k_A | apply k_N | apply k_D); exact HO995.out) hb); have n3_ := Aside0.mk (blk_below (g := gb986) (o := .cells #[.slice Ao16 t983.length co16] 44 (0, 0)) (by (with_reducible repeat first | refine b_N ?_ _ | refine b_D ?_ | refine b_A ?_ _); exact BK986.out) hb); have n4_ := Aside0.mk (below_step (by repeat (first | (with_reducible first | exact HB.out | apply below_alloc | apply pw_below_drewN | apply below_drew1) | exact HB.out)) hb); clear HO985; clear HO990; clear HO995; clear BK986; clear HB; have HO985 := n0_; have HO990 := n1_; have HO995 := n2_; have BK986 := n3_; have HB := n4_; clear n0_ n1_ n2_ n3_ n4_; (try clear hb); (try clear hb2); (try clear hk); (try clear hi)) | ((with_reducible refine gate_callee (f := 37) rfl ?_); refine goesL_ (some 57) rfl rfl Try.func37 (by kernel_rfl) rfl #[.slice A1 l1.length c1, .int .i64 (t983.length : Int)] rfl (by (try simp only [List.map_toArray, List.map_cons, List.map_nil]); first | done | rfl | (simp only [List.length_drop, List.length_take]; rfl)) ?_; (with_reducible refine (spec_R8Order.calls k _ _ l1 (t983.length : Int) t1000 _ ?side1 ?side2 A10.out).mono ?_); (case side1 => repeat (first | exact (Kd.C_below HR1.out HB.out) | (with_reducible refine Kd.C_alloc ?_ _) | (with_reducible refine Kd.C_drewN ?_ _) | (with_reducible refine Kd.C_drew ?_))); (case side2 => exact HC1.out); rintro e w25 ⟨v1001, rfl, ho0, hb⟩; refine ⟨_, rfl, ?_⟩; have n0_ := Aside0.mk (Kd.S_elder' (by (with_reducible repeat (first | apply Kd.S_alloc | apply Kd.S_drewN | apply Kd.S_drew)); exact HO985.out) (Kd.R_base ho0) hb); have n1_ := Aside0.mk (Kd.R_elder' (by (with_reducible repeat first | apply k_A | apply k_N | apply k_D); exact HO990.out) (Kd.R_base ho0) hb); have n2_ := Aside0.mk (Kd.R_elder' (by (with_reducible repeat first | apply k_A | apply k_N | apply k_D); exact HO995.out) (Kd.R_base ho0) hb); have n3_ := Aside0.mk (Kd.R_lower (Kd.R_new' (Kd.R_new' ho0 (Kd.R_lt (by (with_reducible repeat first | apply k_A | apply k_N | apply k_D); exact HO990.out))) (Kd.R_lt (by (with_reducible repeat first | apply k_A | apply k_N | apply k_D); exact HO995.out))) (below_size (by repeat (first | (with_reducible first | exact HB.out | apply below_alloc | apply pw_below_drewN | apply below_drew1) | exact HB.out)))); have n4_ := Aside0.mk (blk_below (g := gb986) (o := .cells #[.slice Ao16 t983.length co16] 44 (0, 0)) (by (with_reducible repeat first | refine b_N ?_ _ | refine b_D ?_ | refine b_A ?_ _); exact BK986.out) hb); have n5_ := Aside0.mk (below_step (by repeat (first | (with_reducible first | exact HB.out | apply below_alloc | apply pw_below_drewN | apply below_drew1) | exact HB.out)) hb); clear HO985; clear HO990; clear HO995; clear BK986; clear HB; have HO985 := n0_; have HO990 := n1_; have HO995 := n2_; have HO1002 := n3_; have BK986 := n4_; have HB := n5_; clear n0_ n1_ n2_ n3_ n4_ n5_; (try clear hb); (try clear hb2); (try clear hk); (try clear hi); (try clear ho0); have hcz26_0 : w25.cell? ⟨gb986, 0, none⟩ = some (.slice Ao16 t983.length co16) := (blk_cell BK986.out 0).trans rfl; have hfz26_0 := blk_frozen BK986.out 0; obtain ⟨Ao27, co27, eo27⟩ := Kd.R_slice HO1002.out; subst eo27) | ((with_reducible refine gate_callee (f := 53) rfl ?_); refine goesL_ (some 62) rfl rfl Try.func53 (by kernel_rfl) rfl #[.agg #[.slice Ao16 t983.length co16], .slice Ao27 t1000.length co27, .int .i64 t987] rfl (by (try simp only [List.map_toArray, List.map_cons, List.map_nil]); first | done | rfl | (simp only [List.length_drop, List.length_take]; rfl)) ?_; (with_reducible refine (impl_BestShields.calls k _ _ t983 _ _ t1000 t987 t1003 t1006 t1007 _ ?side1 ?side2 ?side3 ?side4 A11.out).mono ?_); (case side1 => repeat (first | exact (Kd.S_reads' HO985.out).2.2 | (with_reducible refine Kd.C_alloc ?_ _) | (with_reducible refine Kd.C_drewN ?_ _) | (with_reducible refine Kd.C_drew ?_))); (case side2 => exact (Kd.S_reads' HO985.out).2.1); (case side3 => repeat (first | exact (Kd.R_reads' HO1002.out).2.2 | (with_reducible refine Kd.C_alloc ?_ _) | (with_reducible refine Kd.C_drewN ?_ _) | (with_reducible refine Kd.C_drew ?_))); (case side4 => exact (Kd.R_reads' HO1002.out).2.1); rintro e w28 ⟨v1004, rfl, ho0, hb⟩; refine ⟨_, rfl, ?_⟩; have n0_ := Aside0.mk (Kd.S_elder' (by (with_reducible repeat (first | apply Kd.S_alloc | apply Kd.S_drewN | apply Kd.S_drew)); exact HO985.out) (Kd.R_base ho0) hb); have n1_ := Aside0.mk (Kd.R_elder' (by (with_reducible repeat first | apply k_A | apply k_N | apply k_D); exact HO990.out) (Kd.R_base ho0) hb); have n2_ := Aside0.mk (Kd.R_elder' (by (with_reducible repeat first | apply k_A | apply k_N | apply k_D); exact HO995.out) (Kd.R_base ho0) hb); have n3_ := Aside0.mk (Kd.R_elder' (by (with_reducible repeat first | apply k_A | apply k_N | apply k_D); exact HO1002.out) (Kd.R_base ho0) hb); have n4_ := Aside0.mk (Kd.R_lower (Kd.R_new' (Kd.R_new' (Kd.R_new' ho0 (Kd.R_lt (by (with_reducible repeat first | apply k_A | apply k_N | apply k_D); exact HO990.out))) (Kd.R_lt (by (with_reducible repeat first | apply k_A | apply k_N | apply k_D); exact HO995.out))) (Kd.R_lt (by (with_reducible repeat first | apply k_A | apply k_N | apply k_D); exact HO1002.out))) (below_size (by repeat (first | (with_reducible first | exact HB.out | apply below_alloc | apply pw_below_drewN | apply below_drew1) | exact HB.out)))); have n5_ := Aside0.mk (blk_below (g := gb986) (o := .cells #[.slice Ao16 t983.length co16] 44 (0, 0)) (by (with_reducible repeat first | refine b_N ?_ _ | refine b_D ?_ | refine b_A ?_ _); exact BK986.out) hb); have n6_ := Aside0.mk (below_step (by repeat (first | (with_reducible first | exact HB.out | apply below_alloc | apply pw_below_drewN | apply below_drew1) | exact HB.out)) hb); clear HO985; clear HO990; clear HO995; clear HO1002; clear BK986; clear HB; have HO985 := n0_; have HO990 := n1_; have HO995 := n2_; have HO1002 := n3_; have HO1005 := n4_; have BK986 := n5_; have HB := n6_; clear n0_ n1_ n2_ n3_ n4_ n5_ n6_; (try clear hb); (try clear hb2); (try clear hk); (try clear hi); (try clear ho0); have hcz29_0 : w28.cell? ⟨gb986, 0, none⟩ = some (.slice Ao16 t983.length co16) := (blk_cell BK986.out 0).trans rfl; have hfz29_0 := blk_frozen BK986.out 0) | ((with_reducible refine gate_callee (f := 27) rfl ?_); refine goesL_ (some 68) rfl rfl Try.func27 (by kernel_rfl) rfl #[.agg #[.slice Ao16 t983.length co16]] rfl (by (try simp only [List.map_toArray, List.map_cons, List.map_nil]); first | done | rfl | (simp only [List.length_drop, List.length_take]; rfl)) ?_; (with_reducible refine (impl_TreeBound.calls _ _ t983 t1008 t1009 _ ?side1 ?side2 A12.out).mono ?_); (case side1 => repeat (first | exact (Kd.S_reads' HO985.out).2.2 | (with_reducible refine Kd.C_alloc ?_ _) | (with_reducible refine Kd.C_drewN ?_ _) | (with_reducible refine Kd.C_drew ?_))); (case side2 => exact (Kd.S_reads' HO985.out).2.1); rintro e w30 ⟨rfl, hb⟩; refine ⟨_, rfl, ?_⟩; have n0_ := Aside0.mk (Kd.S_below (by (with_reducible repeat (first | apply Kd.S_alloc | apply Kd.S_drewN | apply Kd.S_drew)); exact HO985.out) hb); have n1_ := Aside0.mk (Kd.R_below (by (with_reducible repeat first | apply k_A | apply k_N | apply k_D); exact HO990.out) hb); have n2_ := Aside0.mk (Kd.R_below (by (with_reducible repeat first | apply k_A | apply k_N | apply k_D); exact HO995.out) hb); have n3_ := Aside0.mk (Kd.R_below (by (with_reducible repeat first | apply k_A | apply k_N | apply k_D); exact HO1002.out) hb); have n4_ := Aside0.mk (Kd.R_below (by (with_reducible repeat first | apply k_A | apply k_N | apply k_D); exact HO1005.out) hb); have n5_ := Aside0.mk (blk_below (g := gb986) (o := .cells #[.slice Ao16 t983.length co16] 44 (0, 0)) (by (with_reducible repeat first | refine b_N ?_ _ | refine b_D ?_ | refine b_A ?_ _); exact BK986.out) hb); have n6_ := Aside0.mk (below_step (by repeat (first | (with_reducible first | exact HB.out | apply below_alloc | apply pw_below_drewN | apply below_drew1) | exact HB.out)) hb); clear HO985; clear HO990; clear HO995; clear HO1002; clear HO1005; clear BK986; clear HB; have HO985 := n0_; have HO990 := n1_; have HO995 := n2_; have HO1002 := n3_; have HO1005 := n4_; have BK986 := n5_; have HB := n6_; clear n0_ n1_ n2_ n3_ n4_ n5_ n6_; (try clear hb); (try clear hb2); (try clear hk); (try clear hi)))
  (try simp only [Act.put, List.setIfInBounds_toArray, List.set_cons_zero, List.set_cons_succ])
  go_cut [121] (fun v121 wc => ∃ (kq : Nat) (x121_12 : Bool), v121 = .bool x121_12 ∧ Aside0 (laws_FnOrders.j0 kq t987 t988 t991 t1000 t1006 t1008 x121_12 = some r) ∧ Aside0 (kq ≤ k) ∧ Aside0 (Kd.R (Kd.int .i64) 2 wc w.heap.size (fun k_ => some k_ ≠ ((.slice Ao27 t1000.length co27) : Value).ownBlock) (.slice Ao20 t988.length co20) t988) ∧ Aside0 (Kd.R (Kd.int .i64) 2 wc w.heap.size (fun k_ => some k_ ≠ ((.slice Ao20 t988.length co20) : Value).ownBlock) (.slice Ao27 t1000.length co27) t1000) ∧ Aside0 (Kd.S (Kd.slice 2 (Kd.int .i64)) 28 wc w.heap.size (fun k_ => some k_ ≠ ((.slice Ao20 t988.length co20) : Value).ownBlock ∧ some k_ ≠ ((.slice Ao27 t1000.length co27) : Value).ownBlock) (.slice Ao16 t983.length co16) t983) ∧ Aside0 (wc.heap[gb986]? = some (.cells #[(.slice Ao16 t983.length co16)] 44 (0, 0))) ∧ Aside0 (Below w.heap.size w wc))
  case first =>
   have H := HC13.out
   clear HC13
   by_cases c31 : t992 = true
   ·subst c31
    have H1 : (if t997 = true then (if t999 = true then (if t1007 = true then (if t1009 = true then (if t996 = t991 then (if t998 = t996 then (if t1006 < t991 then (laws_FnOrders.j0 k t987 t988 t991 t1000 t1006 t1008 true) else (if (t993.length : Int) = t987 then ((impl_ValidBundle.f k t983).bind fun t1010 => (if t1010 = true then ((impl_IsLayout.f k t983 t988 t993).bind fun t1011 => (laws_FnOrders.j0 k t987 t988 t991 t1000 t1006 t1008 (!t1011))) else (laws_FnOrders.j0 k t987 t988 t991 t1000 t1006 t1008 true))) else (laws_FnOrders.j0 k t987 t988 t991 t1000 t1006 t1008 true))) else (laws_FnOrders.j0 k t987 t988 t991 t1000 t1006 t1008 true)) else (laws_FnOrders.j0 k t987 t988 t991 t1000 t1006 t1008 true)) else (laws_FnOrders.j0 k t987 t988 t991 t1000 t1006 t1008 true)) else (laws_FnOrders.j0 k t987 t988 t991 t1000 t1006 t1008 true)) else (laws_FnOrders.j0 k t987 t988 t991 t1000 t1006 t1008 true)) else (laws_FnOrders.j0 k t987 t988 t991 t1000 t1006 t1008 true)) = some r := by rw [if_pos rfl] at H; exact H
    clear H
    have H := H1
    clear H1
    by_cases c32 : t997 = true
    ·subst c32
     have H1 : (if t999 = true then (if t1007 = true then (if t1009 = true then (if t996 = t991 then (if t998 = t996 then (if t1006 < t991 then (laws_FnOrders.j0 k t987 t988 t991 t1000 t1006 t1008 true) else (if (t993.length : Int) = t987 then ((impl_ValidBundle.f k t983).bind fun t1010 => (if t1010 = true then ((impl_IsLayout.f k t983 t988 t993).bind fun t1011 => (laws_FnOrders.j0 k t987 t988 t991 t1000 t1006 t1008 (!t1011))) else (laws_FnOrders.j0 k t987 t988 t991 t1000 t1006 t1008 true))) else (laws_FnOrders.j0 k t987 t988 t991 t1000 t1006 t1008 true))) else (laws_FnOrders.j0 k t987 t988 t991 t1000 t1006 t1008 true)) else (laws_FnOrders.j0 k t987 t988 t991 t1000 t1006 t1008 true)) else (laws_FnOrders.j0 k t987 t988 t991 t1000 t1006 t1008 true)) else (laws_FnOrders.j0 k t987 t988 t991 t1000 t1006 t1008 true)) else (laws_FnOrders.j0 k t987 t988 t991 t1000 t1006 t1008 true)) = some r := by rw [if_pos rfl] at H; exact H
     clear H
     have H := H1
     clear H1
     by_cases c33 : t999 = true
     ·subst c33
      have H1 : (if t1007 = true then (if t1009 = true then (if t996 = t991 then (if t998 = t996 then (if t1006 < t991 then (laws_FnOrders.j0 k t987 t988 t991 t1000 t1006 t1008 true) else (if (t993.length : Int) = t987 then ((impl_ValidBundle.f k t983).bind fun t1010 => (if t1010 = true then ((impl_IsLayout.f k t983 t988 t993).bind fun t1011 => (laws_FnOrders.j0 k t987 t988 t991 t1000 t1006 t1008 (!t1011))) else (laws_FnOrders.j0 k t987 t988 t991 t1000 t1006 t1008 true))) else (laws_FnOrders.j0 k t987 t988 t991 t1000 t1006 t1008 true))) else (laws_FnOrders.j0 k t987 t988 t991 t1000 t1006 t1008 true)) else (laws_FnOrders.j0 k t987 t988 t991 t1000 t1006 t1008 true)) else (laws_FnOrders.j0 k t987 t988 t991 t1000 t1006 t1008 true)) else (laws_FnOrders.j0 k t987 t988 t991 t1000 t1006 t1008 true)) = some r := by rw [if_pos rfl] at H; exact H
      clear H
      have H := H1
      clear H1
      by_cases c34 : t1007 = true
      ·subst c34
       have H1 : (if t1009 = true then (if t996 = t991 then (if t998 = t996 then (if t1006 < t991 then (laws_FnOrders.j0 k t987 t988 t991 t1000 t1006 t1008 true) else (if (t993.length : Int) = t987 then ((impl_ValidBundle.f k t983).bind fun t1010 => (if t1010 = true then ((impl_IsLayout.f k t983 t988 t993).bind fun t1011 => (laws_FnOrders.j0 k t987 t988 t991 t1000 t1006 t1008 (!t1011))) else (laws_FnOrders.j0 k t987 t988 t991 t1000 t1006 t1008 true))) else (laws_FnOrders.j0 k t987 t988 t991 t1000 t1006 t1008 true))) else (laws_FnOrders.j0 k t987 t988 t991 t1000 t1006 t1008 true)) else (laws_FnOrders.j0 k t987 t988 t991 t1000 t1006 t1008 true)) else (laws_FnOrders.j0 k t987 t988 t991 t1000 t1006 t1008 true)) = some r := by rw [if_pos rfl] at H; exact H
       clear H
       have H := H1
       clear H1
       by_cases c35 : t1009 = true
       ·subst c35
        have H1 : (if t996 = t991 then (if t998 = t996 then (if t1006 < t991 then (laws_FnOrders.j0 k t987 t988 t991 t1000 t1006 t1008 true) else (if (t993.length : Int) = t987 then ((impl_ValidBundle.f k t983).bind fun t1010 => (if t1010 = true then ((impl_IsLayout.f k t983 t988 t993).bind fun t1011 => (laws_FnOrders.j0 k t987 t988 t991 t1000 t1006 t1008 (!t1011))) else (laws_FnOrders.j0 k t987 t988 t991 t1000 t1006 t1008 true))) else (laws_FnOrders.j0 k t987 t988 t991 t1000 t1006 t1008 true))) else (laws_FnOrders.j0 k t987 t988 t991 t1000 t1006 t1008 true)) else (laws_FnOrders.j0 k t987 t988 t991 t1000 t1006 t1008 true)) = some r := by rw [if_pos rfl] at H; exact H
        clear H
        have H := H1
        clear H1
        by_cases c36 : t996 = t991
        ·rw [if_pos c36] at H
         have c36b0 : (t996 == t991) = true := beq_iff_eq.mpr c36
         have c36b1 : (t996 != t991) = false := bne_eq_false_iff_eq.mpr c36
         clear c36
         (first | rw [c36b0] | (simp only [i64_w, i32_w]; rw [c36b0]) | skip)
         by_cases c37 : t998 = t996
         ·rw [if_pos c37] at H
          have c37b0 : (t998 == t996) = true := beq_iff_eq.mpr c37
          have c37b1 : (t998 != t996) = false := bne_eq_false_iff_eq.mpr c37
          clear c37
          by_cases c38 : t1006 < t991
          ·rw [if_pos c38] at H
           have c38b0 : decide (t1006 < t991) = true := decide_eq_true c38
           clear c38
           have H' := Aside0.mk H
           clear H
           go_wp2
           go_meet
           case rel => exact ⟨_, (true), (by first | rfl | (simp; done) | (simp [*]; done)), H', ⟨by first | omega | exact Nat.le_refl _⟩, ⟨by (with_reducible repeat (first | apply Kd.R_alloc | apply Kd.R_drewN | apply Kd.R_drew)); exact Kd.R_mono HO990.out (fun _ hk => hk.1.2)⟩, ⟨by (with_reducible repeat (first | apply Kd.R_alloc | apply Kd.R_drewN | apply Kd.R_drew)); exact Kd.R_mono HO1002.out (fun _ hk => hk.1.1.2)⟩, ⟨by (with_reducible repeat (first | apply Kd.S_alloc | apply Kd.S_drewN | apply Kd.S_drew)); exact Kd.S_mono HO985.out (fun _ hk => ⟨hk.1.1.1.2, hk.1.2⟩)⟩, ⟨by (with_reducible repeat first | refine b_N ?_ _ | refine b_D ?_ | refine b_A ?_ _); exact BK986.out⟩, ⟨by repeat (first | (with_reducible first | exact HB.out | apply below_alloc | apply pw_below_drewN | apply below_drew1) | exact HB.out)⟩⟩
          ·rw [if_neg c38] at H
           have c38b0 : decide (t1006 < t991) = false := decide_eq_false c38
           clear c38
           by_cases c39 : (t993.length : Int) = t987
           ·rw [if_pos c39] at H
            have c39b0 : ((t993.length : Int) == t987) = true := beq_iff_eq.mpr c39
            have c39b1 : ((t993.length : Int) != t987) = false := bne_eq_false_iff_eq.mpr c39
            clear c39
            replace H := Option.bind_eq_some_iff.mp H
            obtain ⟨t1010, A400, H⟩ := H
            replace H : (if t1010 = true then ((impl_IsLayout.f k t983 t988 t993).bind fun t1011 => (laws_FnOrders.j0 k t987 t988 t991 t1000 t1006 t1008 (!t1011))) else (laws_FnOrders.j0 k t987 t988 t991 t1000 t1006 t1008 true)) = some r := H
            have A40 := Aside0.mk A400
            clear A400
            by_cases c41 : t1010 = true
            ·subst c41
             have H1 : ((impl_IsLayout.f k t983 t988 t993).bind fun t1011 => (laws_FnOrders.j0 k t987 t988 t991 t1000 t1006 t1008 (!t1011))) = some r := by rw [if_pos rfl] at H; exact H
             clear H
             have H := H1
             clear H1
             replace H := Option.bind_eq_some_iff.mp H
             obtain ⟨t1011, A420, H⟩ := H
             replace H : (laws_FnOrders.j0 k t987 t988 t991 t1000 t1006 t1008 (!t1011)) = some r := H
             have A42 := Aside0.mk A420
             clear A420
             have H' := Aside0.mk H
             clear H
             have hcz43_0 : w30.cell? ⟨gb986, 0, none⟩ = some (.slice Ao16 t983.length co16) := (blk_cell BK986.out 0).trans rfl
             have hfz43_0 := blk_frozen BK986.out 0
             go_wp2_with (first | (go_at_call 54; (with_reducible refine (impl_ValidBundle.calls k _ _ t983 true _ ?side1 ?side2 A40.out).mono ?_); (case side1 => repeat (first | exact (Kd.S_reads' HO985.out).2.2 | (with_reducible refine Kd.C_alloc ?_ _) | (with_reducible refine Kd.C_drewN ?_ _) | (with_reducible refine Kd.C_drew ?_))); (case side2 => exact (Kd.S_reads' HO985.out).2.1); rintro e w44 ⟨rfl, hb⟩; have n0_ := Aside0.mk (Kd.S_below (by (with_reducible repeat (first | apply Kd.S_alloc | apply Kd.S_drewN | apply Kd.S_drew)); exact HO985.out) hb); have n1_ := Aside0.mk (Kd.R_below (by (with_reducible repeat first | apply k_A | apply k_N | apply k_D); exact HO990.out) hb); have n2_ := Aside0.mk (Kd.R_below (by (with_reducible repeat first | apply k_A | apply k_N | apply k_D); exact HO995.out) hb); have n3_ := Aside0.mk (Kd.R_below (by (with_reducible repeat first | apply k_A | apply k_N | apply k_D); exact HO1002.out) hb); have n4_ := Aside0.mk (Kd.R_below (by (with_reducible repeat first | apply k_A | apply k_N | apply k_D); exact HO1005.out) hb); have n5_ := Aside0.mk (blk_below (g := gb986) (o := .cells #[.slice Ao16 t983.length co16] 44 (0, 0)) (by (with_reducible repeat first | refine b_N ?_ _ | refine b_D ?_ | refine b_A ?_ _); exact BK986.out) hb); have n6_ := Aside0.mk (below_step (by repeat (first | (with_reducible first | exact HB.out | apply below_alloc | apply pw_below_drewN | apply below_drew1) | exact HB.out)) hb); clear HO985; clear HO990; clear HO995; clear HO1002; clear HO1005; clear BK986; clear HB; have HO985 := n0_; have HO990 := n1_; have HO995 := n2_; have HO1002 := n3_; have HO1005 := n4_; have BK986 := n5_; have HB := n6_; clear n0_ n1_ n2_ n3_ n4_ n5_ n6_; (try clear hb); (try clear hb2); (try clear hk); (try clear hi); have hcz45_0 : w44.cell? ⟨gb986, 0, none⟩ = some (.slice Ao16 t983.length co16) := (blk_cell BK986.out 0).trans rfl; have hfz45_0 := blk_frozen BK986.out 0) | (go_at_call 55; (with_reducible refine (impl_IsLayout.calls k _ _ t983 _ _ t988 _ _ t993 t1011 _ ?side1 ?side2 ?side3 ?side4 ?side5 ?side6 A42.out).mono ?_); (case side1 => repeat (first | exact (Kd.S_reads' HO985.out).2.2 | (with_reducible refine Kd.C_alloc ?_ _) | (with_reducible refine Kd.C_drewN ?_ _) | (with_reducible refine Kd.C_drew ?_))); (case side2 => exact (Kd.S_reads' HO985.out).2.1); (case side3 => repeat (first | exact (Kd.R_reads' HO990.out).2.2 | (with_reducible refine Kd.C_alloc ?_ _) | (with_reducible refine Kd.C_drewN ?_ _) | (with_reducible refine Kd.C_drew ?_))); (case side4 => exact (Kd.R_reads' HO990.out).2.1); (case side5 => repeat (first | exact (Kd.R_reads' HO995.out).2.2 | (with_reducible refine Kd.C_alloc ?_ _) | (with_reducible refine Kd.C_drewN ?_ _) | (with_reducible refine Kd.C_drew ?_))); (case side6 => exact (Kd.R_reads' HO995.out).2.1); rintro e w46 ⟨rfl, hb⟩; have n0_ := Aside0.mk (Kd.S_below (by (with_reducible repeat (first | apply Kd.S_alloc | apply Kd.S_drewN | apply Kd.S_drew)); exact HO985.out) hb); have n1_ := Aside0.mk (Kd.R_below (by (with_reducible repeat first | apply k_A | apply k_N | apply k_D); exact HO990.out) hb); have n2_ := Aside0.mk (Kd.R_below (by (with_reducible repeat first | apply k_A | apply k_N | apply k_D); exact HO995.out) hb); have n3_ := Aside0.mk (Kd.R_below (by (with_reducible repeat first | apply k_A | apply k_N | apply k_D); exact HO1002.out) hb); have n4_ := Aside0.mk (Kd.R_below (by (with_reducible repeat first | apply k_A | apply k_N | apply k_D); exact HO1005.out) hb); have n5_ := Aside0.mk (blk_below (g := gb986) (o := .cells #[.slice Ao16 t983.length co16] 44 (0, 0)) (by (with_reducible repeat first | refine b_N ?_ _ | refine b_D ?_ | refine b_A ?_ _); exact BK986.out) hb); have n6_ := Aside0.mk (below_step (by repeat (first | (with_reducible first | exact HB.out | apply below_alloc | apply pw_below_drewN | apply below_drew1) | exact HB.out)) hb); clear HO985; clear HO990; clear HO995; clear HO1002; clear HO1005; clear BK986; clear HB; have HO985 := n0_; have HO990 := n1_; have HO995 := n2_; have HO1002 := n3_; have HO1005 := n4_; have BK986 := n5_; have HB := n6_; clear n0_ n1_ n2_ n3_ n4_ n5_ n6_; (try clear hb); (try clear hb2); (try clear hk); (try clear hi)))
             go_meet
             case rel => exact ⟨_, (!t1011), (by first | rfl | (simp; done) | (simp [*]; done)), H', ⟨by first | omega | exact Nat.le_refl _⟩, ⟨by (with_reducible repeat (first | apply Kd.R_alloc | apply Kd.R_drewN | apply Kd.R_drew)); exact Kd.R_mono HO990.out (fun _ hk => hk.1.2)⟩, ⟨by (with_reducible repeat (first | apply Kd.R_alloc | apply Kd.R_drewN | apply Kd.R_drew)); exact Kd.R_mono HO1002.out (fun _ hk => hk.1.1.2)⟩, ⟨by (with_reducible repeat (first | apply Kd.S_alloc | apply Kd.S_drewN | apply Kd.S_drew)); exact Kd.S_mono HO985.out (fun _ hk => ⟨hk.1.1.1.2, hk.1.2⟩)⟩, ⟨by (with_reducible repeat first | refine b_N ?_ _ | refine b_D ?_ | refine b_A ?_ _); exact BK986.out⟩, ⟨by repeat (first | (with_reducible first | exact HB.out | apply below_alloc | apply pw_below_drewN | apply below_drew1) | exact HB.out)⟩⟩
            ·replace c41 := Bool.eq_false_iff.mpr c41
             subst c41
             have H1 : (laws_FnOrders.j0 k t987 t988 t991 t1000 t1006 t1008 true) = some r := by rw [if_neg (show ¬ (false = true) by decide)] at H; exact H
             clear H
             have H := H1
             clear H1
             have H' := Aside0.mk H
             clear H
             have hcz47_0 : w30.cell? ⟨gb986, 0, none⟩ = some (.slice Ao16 t983.length co16) := (blk_cell BK986.out 0).trans rfl
             have hfz47_0 := blk_frozen BK986.out 0
             go_wp2_with (first | (go_at_call 54; (with_reducible refine (impl_ValidBundle.calls k _ _ t983 false _ ?side1 ?side2 A40.out).mono ?_); (case side1 => repeat (first | exact (Kd.S_reads' HO985.out).2.2 | (with_reducible refine Kd.C_alloc ?_ _) | (with_reducible refine Kd.C_drewN ?_ _) | (with_reducible refine Kd.C_drew ?_))); (case side2 => exact (Kd.S_reads' HO985.out).2.1); rintro e w48 ⟨rfl, hb⟩; have n0_ := Aside0.mk (Kd.S_below (by (with_reducible repeat (first | apply Kd.S_alloc | apply Kd.S_drewN | apply Kd.S_drew)); exact HO985.out) hb); have n1_ := Aside0.mk (Kd.R_below (by (with_reducible repeat first | apply k_A | apply k_N | apply k_D); exact HO990.out) hb); have n2_ := Aside0.mk (Kd.R_below (by (with_reducible repeat first | apply k_A | apply k_N | apply k_D); exact HO995.out) hb); have n3_ := Aside0.mk (Kd.R_below (by (with_reducible repeat first | apply k_A | apply k_N | apply k_D); exact HO1002.out) hb); have n4_ := Aside0.mk (Kd.R_below (by (with_reducible repeat first | apply k_A | apply k_N | apply k_D); exact HO1005.out) hb); have n5_ := Aside0.mk (blk_below (g := gb986) (o := .cells #[.slice Ao16 t983.length co16] 44 (0, 0)) (by (with_reducible repeat first | refine b_N ?_ _ | refine b_D ?_ | refine b_A ?_ _); exact BK986.out) hb); have n6_ := Aside0.mk (below_step (by repeat (first | (with_reducible first | exact HB.out | apply below_alloc | apply pw_below_drewN | apply below_drew1) | exact HB.out)) hb); clear HO985; clear HO990; clear HO995; clear HO1002; clear HO1005; clear BK986; clear HB; have HO985 := n0_; have HO990 := n1_; have HO995 := n2_; have HO1002 := n3_; have HO1005 := n4_; have BK986 := n5_; have HB := n6_; clear n0_ n1_ n2_ n3_ n4_ n5_ n6_; (try clear hb); (try clear hb2); (try clear hk); (try clear hi)))
             go_meet
             case rel => exact ⟨_, (true), (by first | rfl | (simp; done) | (simp [*]; done)), H', ⟨by first | omega | exact Nat.le_refl _⟩, ⟨by (with_reducible repeat (first | apply Kd.R_alloc | apply Kd.R_drewN | apply Kd.R_drew)); exact Kd.R_mono HO990.out (fun _ hk => hk.1.2)⟩, ⟨by (with_reducible repeat (first | apply Kd.R_alloc | apply Kd.R_drewN | apply Kd.R_drew)); exact Kd.R_mono HO1002.out (fun _ hk => hk.1.1.2)⟩, ⟨by (with_reducible repeat (first | apply Kd.S_alloc | apply Kd.S_drewN | apply Kd.S_drew)); exact Kd.S_mono HO985.out (fun _ hk => ⟨hk.1.1.1.2, hk.1.2⟩)⟩, ⟨by (with_reducible repeat first | refine b_N ?_ _ | refine b_D ?_ | refine b_A ?_ _); exact BK986.out⟩, ⟨by repeat (first | (with_reducible first | exact HB.out | apply below_alloc | apply pw_below_drewN | apply below_drew1) | exact HB.out)⟩⟩
           ·rw [if_neg c39] at H
            have c39b0 : ((t993.length : Int) == t987) = false := beq_eq_false_iff_ne.mpr c39
            have c39b1 : ((t993.length : Int) != t987) = true := bne_iff_ne.mpr c39
            have H' := Aside0.mk H
            clear H
            go_wp2
            go_meet
            case rel => exact ⟨_, (true), (by first | rfl | (simp; done) | (simp [*]; done)), H', ⟨by first | omega | exact Nat.le_refl _⟩, ⟨by (with_reducible repeat (first | apply Kd.R_alloc | apply Kd.R_drewN | apply Kd.R_drew)); exact Kd.R_mono HO990.out (fun _ hk => hk.1.2)⟩, ⟨by (with_reducible repeat (first | apply Kd.R_alloc | apply Kd.R_drewN | apply Kd.R_drew)); exact Kd.R_mono HO1002.out (fun _ hk => hk.1.1.2)⟩, ⟨by (with_reducible repeat (first | apply Kd.S_alloc | apply Kd.S_drewN | apply Kd.S_drew)); exact Kd.S_mono HO985.out (fun _ hk => ⟨hk.1.1.1.2, hk.1.2⟩)⟩, ⟨by (with_reducible repeat first | refine b_N ?_ _ | refine b_D ?_ | refine b_A ?_ _); exact BK986.out⟩, ⟨by repeat (first | (with_reducible first | exact HB.out | apply below_alloc | apply pw_below_drewN | apply below_drew1) | exact HB.out)⟩⟩
         ·rw [if_neg c37] at H
          have c37b0 : (t998 == t996) = false := beq_eq_false_iff_ne.mpr c37
          have c37b1 : (t998 != t996) = true := bne_iff_ne.mpr c37
          have H' := Aside0.mk H
          clear H
          go_wp2
          go_meet
          case rel => exact ⟨_, (true), (by first | rfl | (simp; done) | (simp [*]; done)), H', ⟨by first | omega | exact Nat.le_refl _⟩, ⟨by (with_reducible repeat (first | apply Kd.R_alloc | apply Kd.R_drewN | apply Kd.R_drew)); exact Kd.R_mono HO990.out (fun _ hk => hk.1.2)⟩, ⟨by (with_reducible repeat (first | apply Kd.R_alloc | apply Kd.R_drewN | apply Kd.R_drew)); exact Kd.R_mono HO1002.out (fun _ hk => hk.1.1.2)⟩, ⟨by (with_reducible repeat (first | apply Kd.S_alloc | apply Kd.S_drewN | apply Kd.S_drew)); exact Kd.S_mono HO985.out (fun _ hk => ⟨hk.1.1.1.2, hk.1.2⟩)⟩, ⟨by (with_reducible repeat first | refine b_N ?_ _ | refine b_D ?_ | refine b_A ?_ _); exact BK986.out⟩, ⟨by repeat (first | (with_reducible first | exact HB.out | apply below_alloc | apply pw_below_drewN | apply below_drew1) | exact HB.out)⟩⟩
        ·rw [if_neg c36] at H
         have c36b0 : (t996 == t991) = false := beq_eq_false_iff_ne.mpr c36
         have c36b1 : (t996 != t991) = true := bne_iff_ne.mpr c36
         (first | rw [c36b0] | (simp only [i64_w, i32_w]; rw [c36b0]) | skip)
         have H' := Aside0.mk H
         clear H
         go_wp2
         go_meet
         case rel => exact ⟨_, (true), (by first | rfl | (simp; done) | (simp [*]; done)), H', ⟨by first | omega | exact Nat.le_refl _⟩, ⟨by (with_reducible repeat (first | apply Kd.R_alloc | apply Kd.R_drewN | apply Kd.R_drew)); exact Kd.R_mono HO990.out (fun _ hk => hk.1.2)⟩, ⟨by (with_reducible repeat (first | apply Kd.R_alloc | apply Kd.R_drewN | apply Kd.R_drew)); exact Kd.R_mono HO1002.out (fun _ hk => hk.1.1.2)⟩, ⟨by (with_reducible repeat (first | apply Kd.S_alloc | apply Kd.S_drewN | apply Kd.S_drew)); exact Kd.S_mono HO985.out (fun _ hk => ⟨hk.1.1.1.2, hk.1.2⟩)⟩, ⟨by (with_reducible repeat first | refine b_N ?_ _ | refine b_D ?_ | refine b_A ?_ _); exact BK986.out⟩, ⟨by repeat (first | (with_reducible first | exact HB.out | apply below_alloc | apply pw_below_drewN | apply below_drew1) | exact HB.out)⟩⟩
       ·replace c35 := Bool.eq_false_iff.mpr c35
        subst c35
        have H1 : (laws_FnOrders.j0 k t987 t988 t991 t1000 t1006 t1008 true) = some r := by rw [if_neg (show ¬ (false = true) by decide)] at H; exact H
        clear H
        have H := H1
        clear H1
        have H' := Aside0.mk H
        clear H
        go_wp2
        go_meet
        case rel => exact ⟨_, (true), (by first | rfl | (simp; done) | (simp [*]; done)), H', ⟨by first | omega | exact Nat.le_refl _⟩, ⟨by (with_reducible repeat (first | apply Kd.R_alloc | apply Kd.R_drewN | apply Kd.R_drew)); exact Kd.R_mono HO990.out (fun _ hk => hk.1.2)⟩, ⟨by (with_reducible repeat (first | apply Kd.R_alloc | apply Kd.R_drewN | apply Kd.R_drew)); exact Kd.R_mono HO1002.out (fun _ hk => hk.1.1.2)⟩, ⟨by (with_reducible repeat (first | apply Kd.S_alloc | apply Kd.S_drewN | apply Kd.S_drew)); exact Kd.S_mono HO985.out (fun _ hk => ⟨hk.1.1.1.2, hk.1.2⟩)⟩, ⟨by (with_reducible repeat first | refine b_N ?_ _ | refine b_D ?_ | refine b_A ?_ _); exact BK986.out⟩, ⟨by repeat (first | (with_reducible first | exact HB.out | apply below_alloc | apply pw_below_drewN | apply below_drew1) | exact HB.out)⟩⟩
      ·replace c34 := Bool.eq_false_iff.mpr c34
       subst c34
       have H1 : (laws_FnOrders.j0 k t987 t988 t991 t1000 t1006 t1008 true) = some r := by rw [if_neg (show ¬ (false = true) by decide)] at H; exact H
       clear H
       have H := H1
       clear H1
       have H' := Aside0.mk H
       clear H
       go_wp2
       go_meet
       case rel => exact ⟨_, (true), (by first | rfl | (simp; done) | (simp [*]; done)), H', ⟨by first | omega | exact Nat.le_refl _⟩, ⟨by (with_reducible repeat (first | apply Kd.R_alloc | apply Kd.R_drewN | apply Kd.R_drew)); exact Kd.R_mono HO990.out (fun _ hk => hk.1.2)⟩, ⟨by (with_reducible repeat (first | apply Kd.R_alloc | apply Kd.R_drewN | apply Kd.R_drew)); exact Kd.R_mono HO1002.out (fun _ hk => hk.1.1.2)⟩, ⟨by (with_reducible repeat (first | apply Kd.S_alloc | apply Kd.S_drewN | apply Kd.S_drew)); exact Kd.S_mono HO985.out (fun _ hk => ⟨hk.1.1.1.2, hk.1.2⟩)⟩, ⟨by (with_reducible repeat first | refine b_N ?_ _ | refine b_D ?_ | refine b_A ?_ _); exact BK986.out⟩, ⟨by repeat (first | (with_reducible first | exact HB.out | apply below_alloc | apply pw_below_drewN | apply below_drew1) | exact HB.out)⟩⟩
     ·replace c33 := Bool.eq_false_iff.mpr c33
      subst c33
      have H1 : (laws_FnOrders.j0 k t987 t988 t991 t1000 t1006 t1008 true) = some r := by rw [if_neg (show ¬ (false = true) by decide)] at H; exact H
      clear H
      have H := H1
      clear H1
      have H' := Aside0.mk H
      clear H
      go_wp2
      go_meet
      case rel => exact ⟨_, (true), (by first | rfl | (simp; done) | (simp [*]; done)), H', ⟨by first | omega | exact Nat.le_refl _⟩, ⟨by (with_reducible repeat (first | apply Kd.R_alloc | apply Kd.R_drewN | apply Kd.R_drew)); exact Kd.R_mono HO990.out (fun _ hk => hk.1.2)⟩, ⟨by (with_reducible repeat (first | apply Kd.R_alloc | apply Kd.R_drewN | apply Kd.R_drew)); exact Kd.R_mono HO1002.out (fun _ hk => hk.1.1.2)⟩, ⟨by (with_reducible repeat (first | apply Kd.S_alloc | apply Kd.S_drewN | apply Kd.S_drew)); exact Kd.S_mono HO985.out (fun _ hk => ⟨hk.1.1.1.2, hk.1.2⟩)⟩, ⟨by (with_reducible repeat first | refine b_N ?_ _ | refine b_D ?_ | refine b_A ?_ _); exact BK986.out⟩, ⟨by repeat (first | (with_reducible first | exact HB.out | apply below_alloc | apply pw_below_drewN | apply below_drew1) | exact HB.out)⟩⟩
    ·replace c32 := Bool.eq_false_iff.mpr c32
     subst c32
     have H1 : (laws_FnOrders.j0 k t987 t988 t991 t1000 t1006 t1008 true) = some r := by rw [if_neg (show ¬ (false = true) by decide)] at H; exact H
     clear H
     have H := H1
     clear H1
     have H' := Aside0.mk H
     clear H
     go_wp2
     go_meet
     case rel => exact ⟨_, (true), (by first | rfl | (simp; done) | (simp [*]; done)), H', ⟨by first | omega | exact Nat.le_refl _⟩, ⟨by (with_reducible repeat (first | apply Kd.R_alloc | apply Kd.R_drewN | apply Kd.R_drew)); exact Kd.R_mono HO990.out (fun _ hk => hk.1.2)⟩, ⟨by (with_reducible repeat (first | apply Kd.R_alloc | apply Kd.R_drewN | apply Kd.R_drew)); exact Kd.R_mono HO1002.out (fun _ hk => hk.1.1.2)⟩, ⟨by (with_reducible repeat (first | apply Kd.S_alloc | apply Kd.S_drewN | apply Kd.S_drew)); exact Kd.S_mono HO985.out (fun _ hk => ⟨hk.1.1.1.2, hk.1.2⟩)⟩, ⟨by (with_reducible repeat first | refine b_N ?_ _ | refine b_D ?_ | refine b_A ?_ _); exact BK986.out⟩, ⟨by repeat (first | (with_reducible first | exact HB.out | apply below_alloc | apply pw_below_drewN | apply below_drew1) | exact HB.out)⟩⟩
   ·replace c31 := Bool.eq_false_iff.mpr c31
    subst c31
    have H1 : (laws_FnOrders.j0 k t987 t988 t991 t1000 t1006 t1008 true) = some r := by rw [if_neg (show ¬ (false = true) by decide)] at H; exact H
    clear H
    have H := H1
    clear H1
    have H' := Aside0.mk H
    clear H
    go_wp2
    go_meet
    case rel => exact ⟨_, (true), (by first | rfl | (simp; done) | (simp [*]; done)), H', ⟨by first | omega | exact Nat.le_refl _⟩, ⟨by (with_reducible repeat (first | apply Kd.R_alloc | apply Kd.R_drewN | apply Kd.R_drew)); exact Kd.R_mono HO990.out (fun _ hk => hk.1.2)⟩, ⟨by (with_reducible repeat (first | apply Kd.R_alloc | apply Kd.R_drewN | apply Kd.R_drew)); exact Kd.R_mono HO1002.out (fun _ hk => hk.1.1.2)⟩, ⟨by (with_reducible repeat (first | apply Kd.S_alloc | apply Kd.S_drewN | apply Kd.S_drew)); exact Kd.S_mono HO985.out (fun _ hk => ⟨hk.1.1.1.2, hk.1.2⟩)⟩, ⟨by (with_reducible repeat first | refine b_N ?_ _ | refine b_D ?_ | refine b_A ?_ _); exact BK986.out⟩, ⟨by repeat (first | (with_reducible first | exact HB.out | apply below_alloc | apply pw_below_drewN | apply below_drew1) | exact HB.out)⟩⟩
  case rest =>
   clear HC13
   try clear c1
   try clear c2
   try clear p2
   try clear c3
   try clear c4
   try clear c5
   try clear c10
   try clear c27
   try clear c31
   try clear c32
   try clear c33
   try clear c34
   try clear c35
   try clear c36
   try clear c36b0
   try clear c36b1
   try clear c37
   try clear c37b0
   try clear c37b1
   try clear c38
   try clear c38b0
   try clear c39
   try clear c39b0
   try clear c39b1
   try clear c40
   try clear c41
   try clear hcz17_0
   try clear hcz19_0
   try clear hcz22_0
   try clear hcz26_0
   try clear hcz29_0
   try clear hcz43_0
   try clear hcz45_0
   try clear hcz47_0
   try clear hfz17_0
   try clear hfz19_0
   try clear hfz22_0
   try clear hfz26_0
   try clear hfz29_0
   try clear hfz43_0
   try clear hfz45_0
   try clear hfz47_0
   obtain ⟨kq, x121_12, rfl, HA, HJ12, HO_8, HO_16, HO_987000, BK986, HB⟩ := hcut
   cases kq with
   | zero => exact absurd HA.out (by simp [laws_FnOrders.j0])
   | succ kj12 =>
    have H := HA.out
    clear HA
    simp only [laws_FnOrders.j0] at H
    by_cases c49 : x121_12 = true
    ·subst c49
     have H1 : (some false) = some r := by rw [if_pos rfl] at H; exact H
     clear H
     have H := H1
     clear H1
     obtain rfl := Option.some.inj H
     go_wp2
     go_ret
     exact ⟨by first | rfl | (simp [errW_none, errW_some] <;> rfl) | (simp [*, errW_none, errW_some] <;> rfl), by repeat (first | (with_reducible first | exact HB.out | apply below_alloc | apply pw_below_drewN | apply below_drew1) | exact HB.out)⟩
    ·replace c49 := Bool.eq_false_iff.mpr c49
     subst c49
     have H1 : (if t1006 = t991 then ((laws_r8Before.f kj12 t1000 t988).bind fun t1012 => (if t1012 = true then (some false) else (if t987 > 0 then (some true) else (some (decide (t1008 ≤ t991)))))) else (if t987 > 0 then (some true) else (some (decide (t1008 ≤ t991))))) = some r := by rw [if_neg (show ¬ (false = true) by decide)] at H; exact H
     clear H
     have H := H1
     clear H1
     by_cases c50 : t1006 = t991
     ·rw [if_pos c50] at H
      have c50b0 : (t1006 == t991) = true := beq_iff_eq.mpr c50
      have c50b1 : (t1006 != t991) = false := bne_eq_false_iff_eq.mpr c50
      clear c50
      replace H := Option.bind_eq_some_iff.mp H
      obtain ⟨t1012, A510, H⟩ := H
      replace H : (if t1012 = true then (some false) else (if t987 > 0 then (some true) else (some (decide (t1008 ≤ t991))))) = some r := H
      have A51 := Aside0.mk A510
      clear A510
      by_cases c52 : t1012 = true
      ·subst c52
       have H1 : (some false) = some r := by rw [if_pos rfl] at H; exact H
       clear H
       have H := H1
       clear H1
       obtain rfl := Option.some.inj H
       go_wp2_with (first | (go_at_call 56; (with_reducible refine (laws_r8Before.calls kj12 _ _ t1000 _ _ t988 true _ ?side1 ?side2 ?side3 ?side4 A51.out).mono ?_); (case side1 => repeat (first | exact (Kd.R_reads' HO_16.out).2.2 | (with_reducible refine Kd.C_alloc ?_ _) | (with_reducible refine Kd.C_drewN ?_ _) | (with_reducible refine Kd.C_drew ?_))); (case side2 => exact (Kd.R_reads' HO_16.out).2.1); (case side3 => repeat (first | exact (Kd.R_reads' HO_8.out).2.2 | (with_reducible refine Kd.C_alloc ?_ _) | (with_reducible refine Kd.C_drewN ?_ _) | (with_reducible refine Kd.C_drew ?_))); (case side4 => exact (Kd.R_reads' HO_8.out).2.1); rintro e w' ⟨rfl, ⟨nd, rfl⟩⟩))
       go_ret
       exact ⟨by first | rfl | (simp [errW_none, errW_some] <;> rfl) | (simp [*, errW_none, errW_some] <;> rfl), by repeat (first | (with_reducible first | exact HB.out | apply below_alloc | apply pw_below_drewN | apply below_drew1) | exact HB.out)⟩
      ·replace c52 := Bool.eq_false_iff.mpr c52
       subst c52
       have H1 : (if t987 > 0 then (some true) else (some (decide (t1008 ≤ t991)))) = some r := by rw [if_neg (show ¬ (false = true) by decide)] at H; exact H
       clear H
       have H := H1
       clear H1
       by_cases c53 : t987 > 0
       ·rw [if_pos c53] at H
        have c53b0 : decide (0 < t987) = true := decide_eq_true c53
        clear c53
        obtain rfl := Option.some.inj H
        go_wp2_with (first | (go_at_call 56; (with_reducible refine (laws_r8Before.calls kj12 _ _ t1000 _ _ t988 false _ ?side1 ?side2 ?side3 ?side4 A51.out).mono ?_); (case side1 => repeat (first | exact (Kd.R_reads' HO_16.out).2.2 | (with_reducible refine Kd.C_alloc ?_ _) | (with_reducible refine Kd.C_drewN ?_ _) | (with_reducible refine Kd.C_drew ?_))); (case side2 => exact (Kd.R_reads' HO_16.out).2.1); (case side3 => repeat (first | exact (Kd.R_reads' HO_8.out).2.2 | (with_reducible refine Kd.C_alloc ?_ _) | (with_reducible refine Kd.C_drewN ?_ _) | (with_reducible refine Kd.C_drew ?_))); (case side4 => exact (Kd.R_reads' HO_8.out).2.1); rintro e w' ⟨rfl, ⟨nd, rfl⟩⟩))
        go_ret
        exact ⟨by first | rfl | (simp [errW_none, errW_some] <;> rfl) | (simp [*, errW_none, errW_some] <;> rfl), by repeat (first | (with_reducible first | exact HB.out | apply below_alloc | apply pw_below_drewN | apply below_drew1) | exact HB.out)⟩
       ·rw [if_neg c53] at H
        have c53b0 : decide (0 < t987) = false := decide_eq_false c53
        clear c53
        obtain rfl := Option.some.inj H
        go_wp2_with (first | (go_at_call 56; (with_reducible refine (laws_r8Before.calls kj12 _ _ t1000 _ _ t988 false _ ?side1 ?side2 ?side3 ?side4 A51.out).mono ?_); (case side1 => repeat (first | exact (Kd.R_reads' HO_16.out).2.2 | (with_reducible refine Kd.C_alloc ?_ _) | (with_reducible refine Kd.C_drewN ?_ _) | (with_reducible refine Kd.C_drew ?_))); (case side2 => exact (Kd.R_reads' HO_16.out).2.1); (case side3 => repeat (first | exact (Kd.R_reads' HO_8.out).2.2 | (with_reducible refine Kd.C_alloc ?_ _) | (with_reducible refine Kd.C_drewN ?_ _) | (with_reducible refine Kd.C_drew ?_))); (case side4 => exact (Kd.R_reads' HO_8.out).2.1); rintro e w' ⟨rfl, ⟨nd, rfl⟩⟩))
        go_ret
        exact ⟨by first | rfl | (simp [errW_none, errW_some] <;> rfl) | (simp [*, errW_none, errW_some] <;> rfl), by repeat (first | (with_reducible first | exact HB.out | apply below_alloc | apply pw_below_drewN | apply below_drew1) | exact HB.out)⟩
     ·rw [if_neg c50] at H
      have c50b0 : (t1006 == t991) = false := beq_eq_false_iff_ne.mpr c50
      have c50b1 : (t1006 != t991) = true := bne_iff_ne.mpr c50
      by_cases c54 : t987 > 0
      ·rw [if_pos c54] at H
       have c54b0 : decide (0 < t987) = true := decide_eq_true c54
       clear c54
       obtain rfl := Option.some.inj H
       go_wp2
       go_ret
       exact ⟨by first | rfl | (simp [errW_none, errW_some] <;> rfl) | (simp [*, errW_none, errW_some] <;> rfl), by repeat (first | (with_reducible first | exact HB.out | apply below_alloc | apply pw_below_drewN | apply below_drew1) | exact HB.out)⟩
      ·rw [if_neg c54] at H
       have c54b0 : decide (0 < t987) = false := decide_eq_false c54
       clear c54
       obtain rfl := Option.some.inj H
       go_wp2
       go_ret
       exact ⟨by first | rfl | (simp [errW_none, errW_some] <;> rfl) | (simp [*, errW_none, errW_some] <;> rfl), by repeat (first | (with_reducible first | exact HB.out | apply below_alloc | apply pw_below_drewN | apply below_drew1) | exact HB.out)⟩

/-- THE ONE PURE STATEMENT of laws_FnOrders: yours. -/
def laws_FnOrders.Pure : Prop := ∀ (l0 : List Int) (l1 : List Int), l0.length ≤ maxLen → l0.length * 1 ≤ 140737488351232 → (∀ x ∈ l0, (Lit.int .u8 x).wf = true) → l1.length ≤ maxLen → l1.length * 1 ≤ 140737488351232 → (∀ x ∈ l1, (Lit.int .u8 x).wf = true) → ∃ k, laws_FnOrders.f k l0 l1 = some true
theorem laws_FnOrders.walk (P : laws_FnOrders.Pure) (a0 : Option Addr) (len0 cap0 : Nat) (z0 : List Int) (a1 : Option Addr) (len1 cap1 : Nat) (z1 : List Int) (w : World) (w0 : (a0 = none ∧ len0 = 0 ∧ cap0 = 0 ∧ z0 = []) ∨ ∃ x, a0 = some x ∧ len0 ≤ cap0 ∧ cap0 ≤ maxLen ∧ z0.length = cap0 ∧ (∀ i, i < z0.length → w.cell? (x.add i) = some (.int .u8 (z0.getD i 0))) ∧ ∀ n ∈ z0, (Lit.int .u8 n).wf = true) (y0 : len0 * 1 ≤ 140737488351232) (w1 : (a1 = none ∧ len1 = 0 ∧ cap1 = 0 ∧ z1 = []) ∨ ∃ x, a1 = some x ∧ len1 ≤ cap1 ∧ cap1 ≤ maxLen ∧ z1.length = cap1 ∧ (∀ i, i < z1.length → w.cell? (x.add i) = some (.int .u8 (z1.getD i 0))) ∧ ∀ n ∈ z1, (Lit.int .u8 n).wf = true) (y1 : len1 * 1 ≤ 140737488351232) :
  Calls Try.prog 10 #[.slice a0 len0 cap0, .slice a1 len1 cap1] w fun e w' => e = .returned (.bool true) ∧ Below w.heap.size w w' := by
 obtain ⟨l0, rfl, hr0, hm0, hw0, hc0⟩ := ReadsInt.ofRowC w0
 obtain ⟨l1, rfl, hr1, hm1, hw1, hc1⟩ := ReadsInt.ofRowC w1
 obtain ⟨k, h⟩ := P l0 l1 hm0 y0 hw0 hm1 y1 hw1
 refine (laws_FnOrders.calls k _ _ l0 _ _ l1 true w (Kd.C_of_reads (d := (0 : Int)) (h1 := fun _ => rfl) hr0) hc0 (Kd.C_of_reads (d := (0 : Int)) (h1 := fun _ => rfl) hr1) hc1 h).mono ?_
 rintro e w' ⟨rfl, hd⟩
 exact ⟨rfl, hd⟩

end Go.Proofs.Ytaapbnhggfmlpaa.P
end
section
set_option linter.unusedVariables false
namespace Go.Proofs.Ytaapbnhggfmlpaa.A
open Go.RowKit Go.Proofs.Ytaapbnhggfmlpaa.P Go.Proofs.YtaapbnhggfmlpaaW.PrintWords Go.Proofs.Ytaapbnhggfmlpaa.M
open Go.Proofs.Ytaapbnhggfmlpaa.B (Valid Wt)
/-- x is the least of the numbers with P, or -1 if there is none. -/
def IsMin (P : Int → Prop) (x : Int) : Prop := (x = -1 ∧ ∀ c, ¬ P c) ∨ (0 ≤ x ∧ P x ∧ ∀ c, P c → x ≤ c)
theorem IsMin.unique {P : Int → Prop} {x y : Int} (h : IsMin P x) (k : IsMin P y) : x = y := by
  rcases h with ⟨rfl, h⟩ | ⟨h0, h1, h2⟩ <;> rcases k with ⟨rfl, k⟩ | ⟨k0, k1, k2⟩
  · rfl
  · exact absurd k1 (h _)
  · exact absurd h1 (k _)
  · have := h2 _ k1
    have := k2 _ h1
    omega
theorem IsMin.congr {P Q : Int → Prop} {x : Int} (h : IsMin P x) (e : ∀ c, P c ↔ Q c) : IsMin Q x := by
  rcases h with ⟨rfl, h⟩ | ⟨h0, h1, h2⟩
  · exact .inl ⟨rfl, fun c hc => h c ((e c).2 hc)⟩
  · exact .inr ⟨h0, (e _).1 h1, fun c hc => h2 c ((e c).2 hc)⟩
theorem IsMin.none {P : Int → Prop} {x : Int} (h : IsMin P x) (hn : ∀ c, ¬ P c) : x = -1 := by
  rcases h with ⟨rfl, _⟩ | ⟨_, h1, _⟩
  · rfl
  · exact absurd h1 (hn _)
theorem IsMin.of_neg {P : Int → Prop} {x : Int} (h : IsMin P x) (hx : x < 0) : ∀ c, ¬ P c := by
  rcases h with ⟨_, h⟩ | ⟨h0, _⟩
  · exact h
  · omega
theorem IsMin.mem {P : Int → Prop} {x : Int} (h : IsMin P x) (hx : 0 ≤ x) : P x := by
  rcases h with ⟨rfl, _⟩ | ⟨_, h1, _⟩
  · omega
  · exact h1
theorem IsMin.le {P : Int → Prop} {x : Int} (h : IsMin P x) {c : Int} (hc : P c) : 0 ≤ x ∧ x ≤ c := by
  rcases h with ⟨_, h⟩ | ⟨h0, _, h2⟩
  · exact absurd hc (h c)
  · exact ⟨h0, h2 c hc⟩
/-- A way to complete an order: the wires that follow, each with or without a shield ahead of it, and the coupling. -/
inductive Cmp (n : Nat) (W : Nat → Nat → Int) (fin : Int) : Nat → Nat → Nat → List (Nat × Bool) → Int → Prop
  | done {L : Nat} : (fin < 0 ∨ (L : Int) = fin) → Cmp n W fin (2 ^ n - 1) L 0 [] 0
  | step {D L S i : Nat} {p : List (Nat × Bool)} {c : Int} : i < n → D.testBit i = false → Cmp n W fin (D ||| 2 ^ i) i S p c → Cmp n W fin D L S ((i, false) :: p) (W L i + c)
  | hop {D L S i : Nat} {p : List (Nat × Bool)} {c : Int} : i < n → D.testBit i = false → Cmp n W fin (D ||| 2 ^ i) i S p c → Cmp n W fin D L (S + 1) ((i, true) :: p) c
section
variable {l : List (List Int)} {fin : Int}
theorem Cmp.len {n : Nat} {W : Nat → Nat → Int} {D L S : Nat} {p : List (Nat × Bool)} {c : Int} (h : Cmp n W fin D L S p c) : p.length = ucnt n D := by
  induction h with
  | done _ => exact ((ucnt_zero n (2 ^ n - 1) (by have := Nat.one_le_two_pow (n := n); omega)).2 rfl).symm
  | @step D L S i p c hi hb _ ih =>
    have := ucnt_or n D i hb
    rw [if_pos hi] at this
    simp [ih]; omega
  | @hop D L S i p c hi hb _ ih =>
    have := ucnt_or n D i hb
    rw [if_pos hi] at this
    simp [ih]; omega
theorem Cmp.bound (V : Valid l) {D L S : Nat} {p : List (Nat × Bool)} {c : Int} (h : Cmp l.length (Wt l) fin D L S p c) (hL : L < l.length) : 0 ≤ c ∧ c ≤ 1000 * p.length := by
  induction h with
  | done _ => simp
  | @step D L S i p c hi hb _ ih =>
    have h1 := ih hi
    have h2 := V.bound L i hL hi
    simp only [List.length_cons]
    push_cast
    omega
  | @hop D L S i p c hi hb _ ih =>
    have h1 := ih hi
    simp only [List.length_cons]
    push_cast
    omega
/-- A wire that has a place does not follow. -/
theorem Cmp.not_mem {n : Nat} {W : Nat → Nat → Int} {D L S : Nat} {p : List (Nat × Bool)} {c : Int} (h : Cmp n W fin D L S p c) : ∀ j, D.testBit j = true → ∀ x ∈ p, x.1 ≠ j := by
  induction h with
  | done _ => intro j _ x hx; cases hx
  | @step D L S i p c hi hb _ ih =>
    intro j hj x hx
    rcases List.mem_cons.1 hx with rfl | hx
    · rintro rfl
      rw [hb] at hj
      cases hj
    · exact ih j (by rw [testBit_or_pow, hj]; rfl) x hx
  | @hop D L S i p c hi hb _ ih =>
    intro j hj x hx
    rcases List.mem_cons.1 hx with rfl | hx
    · rintro rfl
      rw [hb] at hj
      cases hj
    · exact ih j (by rw [testBit_or_pow, hj]; rfl) x hx
/-- The last wire is the one that is asked for. -/
theorem Cmp.last {n : Nat} {W : Nat → Nat → Int} {D L S : Nat} {p : List (Nat × Bool)} {c : Int} (h : Cmp n W fin D L S p c) (hf : 0 ≤ fin) : (((p.map Prod.fst).getLastD L : Nat) : Int) = fin := by
  induction h with
  | done h =>
    rcases h with h | h
    · omega
    · exact h
  | @step D L S i p c hi hb _ ih => rw [List.map_cons, List.getLastD_cons]; exact ih
  | @hop D L S i p c hi hb _ ih => rw [List.map_cons, List.getLastD_cons]; exact ih
theorem getLastD_mem {α : Type} : ∀ (xs : List α) (a : α), xs ≠ [] → xs.getLastD a ∈ xs := by
  intro xs
  induction xs with
  | nil => exact fun a h => absurd rfl h
  | cons x xs ih =>
    intro a _
    rw [List.getLastD_cons]
    by_cases h : xs = []
    · subst h; simp
    · exact List.mem_cons_of_mem _ (ih x h)
/-- What the planner passes by cannot be completed. -/
theorem Cmp.pruned {n : Nat} {W : Nat → Nat → Int} {D S i : Nat} {p : List (Nat × Bool)} {c : Int} (hn : n ≤ 9) (hD : D < 2 ^ n) (hi : i < n) (hf : 0 ≤ fin) (hs : ((i : Int) == fin) ≠ (setb D i == full n)) : ¬ Cmp n W fin (D ||| 2 ^ i) i S p c := by
  intro h
  have hl := h.last hf
  have h9 := pow9 hn
  have e : (setb D i == full n) = decide (D ||| 2 ^ i = 2 ^ n - 1) := by
    rw [setb_nat D i (by omega) (by omega), full_nat n hn, Bool.eq_iff_iff, beq_iff_eq, decide_eq_true_eq]
    omega
  rw [e] at hs
  have hlt := or_lt hD hi
  by_cases hfull : D ||| 2 ^ i = 2 ^ n - 1
  · have hp := h.len
    rw [(ucnt_zero n _ hlt).2 hfull] at hp
    have : p = [] := List.eq_nil_of_length_eq_zero hp
    subst this
    simp at hl
    rw [decide_eq_true hfull, hl] at hs
    simp at hs
  · have hp := h.len
    have hne : ucnt n (D ||| 2 ^ i) ≠ 0 := fun e => hfull ((ucnt_zero n _ hlt).1 e)
    have hpn : p.map Prod.fst ≠ [] := by
      intro e
      have := congrArg List.length e
      simp at this
      subst this
      simp at hp
      omega
    have hm := getLastD_mem (p.map Prod.fst) i hpn
    obtain ⟨x, hx, hx2⟩ := List.mem_map.1 hm
    rw [decide_eq_false hfull] at hs
    have hfi : (i : Int) = fin := by
      by_cases e : (i : Int) = fin
      · exact e
      · have : ((i : Int) == fin) = false := by simpa using e
        rw [this] at hs
        exact absurd rfl hs
    rw [← hfi] at hl
    have : (p.map Prod.fst).getLastD i = i := by omega
    rw [this] at hx2
    exact h.not_mem i (by rw [testBit_or_pow]; simp) x hx hx2
theorem mem_itm {D L S i : Nat} (hn : l.length ≤ 9) (hD : D < 2 ^ l.length) (hi : i < l.length) (x : Itm) :
    x ∈ itm l fin ⟨D, L, S⟩ i ↔ ¬ skipb l.length fin D i ∧ (x = ⟨i, Wt l L i, ⟨(D ||| 2 ^ i : Nat), i, S⟩⟩ ∨ ∃ S' : Nat, S = S' + 1 ∧ x = ⟨i, 0, ⟨(D ||| 2 ^ i : Nat), i, S'⟩⟩) := by
  have h9 := pow9 hn
  have e := setb_nat D i (by omega) (by omega)
  unfold itm
  by_cases hs : skipb l.length fin D i
  · rw [if_pos hs]
    simp [hs]
  · rw [if_neg hs, List.mem_cons]
    simp only [e]
    constructor
    · rintro (rfl | h)
      · exact ⟨hs, .inl rfl⟩
      · by_cases hS : (0 : Int) < (S : Int)
        · rw [if_pos hS] at h
          obtain rfl := List.mem_singleton.1 h
          exact ⟨hs, .inr ⟨S - 1, by omega, by rw [show ((S - 1 : Nat) : Int) = (S : Int) - 1 by omega]⟩⟩
        · rw [if_neg hS] at h
          cases h
    · rintro ⟨_, rfl | ⟨S', rfl, rfl⟩⟩
      · exact .inl rfl
      · refine .inr ?_
        rw [if_pos (by omega)]
        simp
theorem skipb_nat {n D i : Nat} (hn : n ≤ 9) (hD : D < 2 ^ n) : skipb n fin D i ↔ D.testBit i = true ∨ (0 ≤ fin ∧ ((i : Int) == fin) ≠ (setb D i == full n)) := by
  unfold skipb
  have h9 := pow9 hn
  rw [tst_nat D i (by omega)]
theorem mem_itms {D L S : Nat} (hn : l.length ≤ 9) (hD : D < 2 ^ l.length) (x : Itm) :
    x ∈ itms l fin ⟨D, L, S⟩ l.length ↔ ∃ i, i < l.length ∧ ¬ skipb l.length fin D i ∧ (x = ⟨i, Wt l L i, ⟨(D ||| 2 ^ i : Nat), i, S⟩⟩ ∨ ∃ S' : Nat, S = S' + 1 ∧ x = ⟨i, 0, ⟨(D ||| 2 ^ i : Nat), i, S'⟩⟩) := by
  unfold itms
  rw [List.mem_flatMap]
  constructor
  · rintro ⟨i, hi, hx⟩
    have hi := List.mem_range.1 hi
    exact ⟨i, hi, (mem_itm hn hD hi x).1 hx⟩
  · rintro ⟨i, hi, hx⟩
    exact ⟨i, List.mem_range.2 hi, (mem_itm hn hD hi x).2 hx⟩
theorem fold_min {F : T3 → Int} {P : T3 → Int → Prop} : ∀ (xs : List Itm) (Q : Int → Prop) (a : Int), IsMin Q a → (∀ x ∈ xs, IsMin (P x.t) (F x.t)) → (∀ x ∈ xs, 0 ≤ x.c ∧ x.c ≤ 1000 ∧ ∀ c, P x.t c → 0 ≤ c ∧ c ≤ 9000) →
    IsMin (fun c => Q c ∨ ∃ x ∈ xs, ∃ c', P x.t c' ∧ c = c' + x.c) (xs.foldl (stepF F) a) := by
  intro xs
  induction xs with
  | nil => exact fun Q a h _ _ => h.congr fun c => by simp
  | cons x xs ih =>
    intro Q a h hF hb
    rw [List.foldl_cons]
    have hx := hF x (List.mem_cons_self ..)
    obtain ⟨b0, b1, b2⟩ := hb x (List.mem_cons_self ..)
    have hstep : IsMin (fun c => Q c ∨ ∃ c', P x.t c' ∧ c = c' + x.c) (stepF F a x) := by
      rcases hx with ⟨hx0, hx1⟩ | ⟨hx0, hx1, hx2⟩
      · have e : stepF F a x = a := if_neg (by omega)
        rw [e]
        exact h.congr fun c => ⟨.inl, fun h => h.elim id fun ⟨c', h, _⟩ => absurd h (hx1 c')⟩
      · have hw : wrap64 (F x.t + x.c) = F x.t + x.c := Go.IntWalk.wrap64_in _ (by have := b2 _ hx1; omega)
        unfold stepF
        rw [hw]
        rcases h with ⟨rfl, h⟩ | ⟨h0, h1, h2⟩
        · rw [if_pos ⟨hx0, .inl (by omega)⟩]
          refine .inr ⟨by omega, .inr ⟨_, hx1, rfl⟩, ?_⟩
          rintro c (hc | ⟨c', hc, rfl⟩)
          · exact absurd hc (h c)
          · have := hx2 c' hc
            omega
        · by_cases hlt : F x.t + x.c < a
          · rw [if_pos ⟨hx0, .inr hlt⟩]
            refine .inr ⟨by omega, .inr ⟨_, hx1, rfl⟩, ?_⟩
            rintro c (hc | ⟨c', hc, rfl⟩)
            · have := h2 c hc
              omega
            · have := hx2 c' hc
              omega
          · rw [if_neg (by omega)]
            refine .inr ⟨h0, .inl h1, ?_⟩
            rintro c (hc | ⟨c', hc, rfl⟩)
            · exact h2 c hc
            · have := hx2 c' hc
              omega
    refine (ih _ _ hstep (fun y hy => hF y (List.mem_cons_of_mem _ hy)) (fun y hy => hb y (List.mem_cons_of_mem _ hy))).congr fun c => ?_
    constructor
    · rintro ((a | ⟨c', h⟩) | ⟨y, hy, h⟩)
      · exact .inl a
      · exact .inr ⟨x, List.mem_cons_self .., c', h⟩
      · exact .inr ⟨y, List.mem_cons_of_mem _ hy, h⟩
    · rintro (a | ⟨y, hy, h⟩)
      · exact .inl (.inl a)
      · rcases List.mem_cons.1 hy with rfl | hy
        · exact .inl (.inr h)
        · exact .inr ⟨y, hy, h⟩
/-- The tasks that are told as numbers. -/
def CT (l : List (List Int)) (fin : Int) (t : T3) (c : Int) : Prop := ∃ p, Cmp l.length (Wt l) fin t.d.toNat t.l.toNat t.s.toNat p c
theorem lf_min (V : Valid l) : ∀ (k : Nat) (t : T3), tcnt l.length t = k → Tk l.length t → IsMin (CT l fin t) (lf l fin t) := by
  have hn := V.le
  intro k
  induction k using Nat.strongRecOn with
  | _ k ih =>
    intro t hk ht
    have ht0 := ht
    obtain ⟨D, L, S, rfl, hD, hL, hS⟩ := ht
    have h9 := pow9 hn
    have hfn := full_nat _ hn
    by_cases hd : (D : Int) = full l.length
    · have hDf : D = 2 ^ l.length - 1 := by rw [hfn] at hd; omega
      rw [lf_full (l := l) (fin := fin) (t := ⟨D, L, S⟩) hd]
      have hp : ∀ c, CT l fin ⟨D, L, S⟩ c ↔ S = 0 ∧ (fin < 0 ∨ (L : Int) = fin) ∧ c = 0 := by
        intro c
        constructor
        · rintro ⟨p, hp⟩
          have hlen := hp.len
          simp only [Int.toNat_natCast] at hp hlen
          rw [(ucnt_zero _ _ hD).2 hDf] at hlen
          have : p = [] := List.eq_nil_of_length_eq_zero hlen
          subst this
          generalize hS' : S = S2 at hp
          cases hp with
          | done h => exact ⟨hS'.symm ▸ rfl, h, rfl⟩
        · rintro ⟨rfl, h, rfl⟩
          refine ⟨[], ?_⟩
          simp only [Int.toNat_natCast, hDf]
          exact Cmp.done h
      refine IsMin.congr ?_ fun c => (hp c).symm
      unfold baseF
      by_cases hc : 0 < (S : Int) ∨ (0 ≤ fin ∧ (L : Int) ≠ fin)
      · rw [if_pos hc]
        refine .inl ⟨rfl, ?_⟩
        rintro c ⟨h1, h2, _⟩
        rcases hc with hc | hc
        · omega
        · rcases h2 with h2 | h2
          · omega
          · exact hc.2 h2
      · rw [if_neg hc]
        refine .inr ⟨Int.le_refl _, ⟨by omega, ?_, rfl⟩, fun c h => by omega⟩
        by_cases h : fin < 0
        · exact .inl h
        · exact .inr (Classical.byContradiction fun h2 => hc (.inr ⟨by omega, h2⟩))
    · rw [lf_eq hn ht0 hd]
      have hok := itms_ok (fin := fin) hn ht0
      have hDne : D ≠ 2 ^ l.length - 1 := fun e => hd (by rw [hfn, ← e])
      refine (fold_min (P := CT l fin) (itms l fin ⟨D, L, S⟩ l.length) (fun _ => False) (-1) (.inl ⟨rfl, fun _ h => h⟩) ?_ ?_).congr fun c => ?_
      · intro x hx
        obtain ⟨h1, h2, _⟩ := hok x hx
        exact ih (tcnt l.length x.t) (by omega) x.t rfl h1
      · intro x hx
        obtain ⟨i, hi, hns, hx2⟩ := (mem_itms hn hD x).1 hx
        have hb : ∀ c, CT l fin x.t c → 0 ≤ c ∧ c ≤ 9000 := by
          rintro c ⟨p, hp⟩
          have h1 := hp.len
          have h2 := ucnt_le l.length x.t.d.toNat
          have h3 := hp.bound V (by rcases hx2 with rfl | ⟨S', _, rfl⟩ <;> simpa using hi)
          omega
        rcases hx2 with rfl | ⟨S', _, rfl⟩
        · have := V.bound L i hL hi
          exact ⟨this.1, this.2, hb⟩
        · exact ⟨by simp, by simp, hb⟩
      · constructor
        · rintro (h | ⟨x, hx, c', ⟨p, hp⟩, rfl⟩)
          · exact h.elim
          · obtain ⟨i, hi, hns, hx2⟩ := (mem_itms hn hD x).1 hx
            rw [skipb_nat hn hD] at hns
            have hbit : D.testBit i = false := by
              cases hb : D.testBit i
              · rfl
              · exact absurd (.inl hb) hns
            rcases hx2 with rfl | ⟨S', rfl, rfl⟩
            · simp only [Int.toNat_natCast] at hp
              refine ⟨(i, false) :: p, ?_⟩
              simp only [Int.toNat_natCast]
              rw [Int.add_comm]
              exact .step hi hbit hp
            · simp only [Int.toNat_natCast] at hp
              refine ⟨(i, true) :: p, ?_⟩
              simp only [Int.toNat_natCast, Int.add_zero]
              exact .hop hi hbit hp
        · rintro ⟨p, hp⟩
          simp only [Int.toNat_natCast] at hp
          refine .inr ?_
          generalize hS' : S = S2 at hp
          cases hp with
          | done h => exact absurd rfl hDne
          | @step _ _ _ i p c hi hbit h =>
            subst hS'
            refine ⟨⟨i, Wt l L i, ⟨(D ||| 2 ^ i : Nat), i, S⟩⟩, (mem_itms hn hD _).2 ⟨i, hi, ?_, .inl rfl⟩, c, ⟨p, by simpa using h⟩, by simp [Int.add_comm]⟩
            rw [skipb_nat hn hD]
            rintro (h1 | ⟨h1, h2⟩)
            · rw [hbit] at h1; cases h1
            · exact Cmp.pruned hn hD hi h1 h2 h
          | @hop _ _ S' i p c hi hbit h =>
            subst hS'
            refine ⟨⟨i, 0, ⟨(D ||| 2 ^ i : Nat), i, S'⟩⟩, (mem_itms hn hD _).2 ⟨i, hi, ?_, .inr ⟨S', rfl, rfl⟩⟩, c, ⟨p, by simpa using h⟩, by simp⟩
            rw [skipb_nat hn hD]
            rintro (h1 | ⟨h1, h2⟩)
            · rw [hbit] at h1; cases h1
            · exact Cmp.pruned hn hD hi h1 h2 h
end
end Go.Proofs.Ytaapbnhggfmlpaa.A
end
section
set_option linter.unusedVariables false
namespace Go.Proofs.Ytaapbnhggfmlpaa.A
open Go.RowKit Go.Proofs.Ytaapbnhggfmlpaa.P Go.Proofs.YtaapbnhggfmlpaaW.PrintWords Go.Proofs.Ytaapbnhggfmlpaa.M
open Go.Proofs.Ytaapbnhggfmlpaa.B (Valid Wt up up_length)
def lexLE : List Nat → List Nat → Prop
  | [], _ => True
  | _ :: _, [] => False
  | a :: as_, b :: bs => a < b ∨ (a = b ∧ lexLE as_ bs)
/-- The coupling along a way, by whether a shield stands ahead of each wire. -/
def pathC (W : Nat → Nat → Int) : Nat → List (Nat × Bool) → Int
  | _, [] => 0
  | a, (i, b) :: p => (if b = true then 0 else W a i) + pathC W i p
def trues (p : List (Nat × Bool)) : Nat := (p.filter fun x => x.2).length
theorem Cmp.cost {n : Nat} {W : Nat → Nat → Int} {fin : Int} {D L S : Nat} {p : List (Nat × Bool)} {c : Int} (h : Cmp n W fin D L S p c) : c = pathC W L p ∧ S = trues p := by
  induction h with
  | done _ => exact ⟨rfl, rfl⟩
  | @step D L S i p c hi hb _ ih => exact ⟨by simp [pathC, ih.1], by simp [trues] at ih ⊢; exact ih.2⟩
  | @hop D L S i p c hi hb _ ih => exact ⟨by simp [pathC, ih.1], by simp [trues] at ih ⊢; exact ih.2⟩
theorem Cmp.nodup {n : Nat} {W : Nat → Nat → Int} {fin : Int} {D L S : Nat} {p : List (Nat × Bool)} {c : Int} (h : Cmp n W fin D L S p c) : (p.map Prod.fst).Nodup ∧ ∀ i ∈ p.map Prod.fst, i < n ∧ D.testBit i = false := by
  induction h with
  | done _ => exact ⟨List.nodup_nil, fun i hi => by cases hi⟩
  | @step D L S i p c hi hb h ih =>
    refine ⟨List.nodup_cons.2 ⟨fun hm => ?_, ih.1⟩, fun j hj => ?_⟩
    · have := (ih.2 i hm).2
      rw [testBit_or_pow] at this
      simp at this
    · rcases List.mem_cons.1 hj with rfl | hj
      · exact ⟨hi, hb⟩
      · have := ih.2 j hj
        rw [testBit_or_pow] at this
        simp at this
        exact ⟨this.1, this.2.1⟩
  | @hop D L S i p c hi hb h ih =>
    refine ⟨List.nodup_cons.2 ⟨fun hm => ?_, ih.1⟩, fun j hj => ?_⟩
    · have := (ih.2 i hm).2
      rw [testBit_or_pow] at this
      simp at this
    · rcases List.mem_cons.1 hj with rfl | hj
      · exact ⟨hi, hb⟩
      · have := ih.2 j hj
        rw [testBit_or_pow] at this
        simp at this
        exact ⟨this.1, this.2.1⟩
theorem Cmp.of {n : Nat} {W : Nat → Nat → Int} {fin : Int} : ∀ (p : List (Nat × Bool)) (D L : Nat), D < 2 ^ n → (p.map Prod.fst).Nodup → (∀ i ∈ p.map Prod.fst, i < n ∧ D.testBit i = false) → p.length = ucnt n D → (fin < 0 ∨ (((p.map Prod.fst).getLastD L : Nat) : Int) = fin) → Cmp n W fin D L (trues p) p (pathC W L p) := by
  intro p
  induction p with
  | nil =>
    intro D L hD _ _ hl hf
    have : D = 2 ^ n - 1 := (ucnt_zero n D hD).1 hl.symm
    subst this
    exact .done hf
  | cons x p ih =>
    intro D L hD hn hm hl hf
    obtain ⟨i, b⟩ := x
    rw [List.map_cons] at hn hm
    obtain ⟨hn1, hn2⟩ := List.nodup_cons.1 hn
    obtain ⟨hi, hb⟩ := hm i (List.mem_cons_self ..)
    have hc := ucnt_or n D i hb
    rw [if_pos hi] at hc
    have h := ih (D ||| 2 ^ i) i (or_lt hD hi) hn2 (fun j hj => ⟨(hm j (List.mem_cons_of_mem _ hj)).1, by
      rw [testBit_or_pow, (hm j (List.mem_cons_of_mem _ hj)).2]
      simp
      rintro rfl
      exact hn1 hj⟩) (by simp at hl; omega) (by
      rw [List.map_cons, List.getLastD_cons] at hf
      exact hf)
    cases b with
    | false =>
      have e : trues ((i, false) :: p) = trues p := by simp [trues]
      have e2 : pathC W L ((i, false) :: p) = W L i + pathC W i p := by simp [pathC]
      rw [e, e2]
      exact .step hi hb h
    | true =>
      have e : trues ((i, true) :: p) = trues p + 1 := by simp [trues]
      have e2 : pathC W L ((i, true) :: p) = pathC W i p := by simp [pathC]
      rw [e, e2]
      exact .hop hi hb h
section
variable {l : List (List Int)} {fin : Int}
theorem cmp_item (V : Valid l) {D L S : Nat} (hD : D < 2 ^ l.length) {p : List (Nat × Bool)} {c : Int} (h : Cmp l.length (Wt l) fin D L S p c) (hp : D ≠ 2 ^ l.length - 1) :
    ∃ x ∈ itms l fin ⟨D, L, S⟩ l.length, ∃ b q c', p = (x.w, b) :: q ∧ c = c' + x.c ∧ Cmp l.length (Wt l) fin x.t.d.toNat x.t.l.toNat x.t.s.toNat q c' := by
  have hn := V.le
  cases h with
  | done h => exact absurd rfl hp
  | @step _ _ _ i p c hi hbit h =>
    refine ⟨⟨i, Wt l L i, ⟨(D ||| 2 ^ i : Nat), i, S⟩⟩, (mem_itms hn hD _).2 ⟨i, hi, ?_, .inl rfl⟩, false, p, c, rfl, Int.add_comm .., by simpa using h⟩
    rw [skipb_nat hn hD]
    rintro (h1 | ⟨h1, h2⟩)
    · rw [hbit] at h1; cases h1
    · exact Cmp.pruned hn hD hi h1 h2 h
  | @hop _ _ S' i p c hi hbit h =>
    refine ⟨⟨i, 0, ⟨(D ||| 2 ^ i : Nat), i, S'⟩⟩, (mem_itms hn hD _).2 ⟨i, hi, ?_, .inr ⟨S', rfl, rfl⟩⟩, true, p, c, rfl, by simp, by simpa using h⟩
    rw [skipb_nat hn hD]
    rintro (h1 | ⟨h1, h2⟩)
    · rw [hbit] at h1; cases h1
    · exact Cmp.pruned hn hD hi h1 h2 h
theorem item_cmp (V : Valid l) {D L S : Nat} (hD : D < 2 ^ l.length) {x : Itm} (hx : x ∈ itms l fin ⟨D, L, S⟩ l.length) {q : List (Nat × Bool)} {c : Int} (h : Cmp l.length (Wt l) fin x.t.d.toNat x.t.l.toNat x.t.s.toNat q c) :
    ∃ b, Cmp l.length (Wt l) fin D L S ((x.w, b) :: q) (c + x.c) := by
  have hn := V.le
  obtain ⟨i, hi, hns, hx2⟩ := (mem_itms hn hD x).1 hx
  rw [skipb_nat hn hD] at hns
  have hbit : D.testBit i = false := by
    cases hb : D.testBit i
    · rfl
    · exact absurd (.inl hb) hns
  rcases hx2 with rfl | ⟨S', rfl, rfl⟩
  · simp only [Int.toNat_natCast] at h
    refine ⟨false, ?_⟩
    rw [Int.add_comm]
    exact .step hi hbit h
  · simp only [Int.toNat_natCast] at h
    refine ⟨true, ?_⟩
    simp only [Int.add_zero]
    exact .hop hi hbit h
theorem item_c (V : Valid l) {D L S : Nat} (hD : D < 2 ^ l.length) (hL : L < l.length) {x : Itm} (hx : x ∈ itms l fin ⟨D, L, S⟩ l.length) : 0 ≤ x.c ∧ x.c ≤ 1000 := by
  obtain ⟨i, hi, hns, rfl | ⟨S', _, rfl⟩⟩ := (mem_itms V.le hD x).1 hx
  · exact V.bound L i hL hi
  · simp
theorem lf_bd (V : Valid l) {t : T3} (ht : Tk l.length t) : -1 ≤ lf l fin t ∧ lf l fin t ≤ 9000 := by
  rcases lf_min (fin := fin) V _ t rfl ht with ⟨h, _⟩ | ⟨h0, ⟨p, hp⟩, _⟩
  · omega
  · obtain ⟨D, L, S, rfl, hD, hL, hS⟩ := ht
    have h1 := hp.len
    have h2 := ucnt_le l.length D
    have h3 := hp.bound V (by simpa using hL)
    simp only [Int.toNat_natCast] at h1
    have := V.le
    omega
theorem gw_iff (V : Valid l) {D L S : Nat} (hD : D < 2 ^ l.length) (hL : L < l.length) (hS : S ≤ 9) {x : Itm} (hx : x ∈ itms l fin ⟨D, L, S⟩ l.length) (want : Int) : Gw l fin want x ↔ 0 ≤ lf l fin x.t ∧ lf l fin x.t + x.c = want := by
  have h1 := item_c V hD hL hx
  have h2 := lf_bd (fin := fin) V (itms_ok V.le (t := ⟨D, L, S⟩) ⟨D, L, S, rfl, hD, hL, hS⟩ x hx).1
  unfold Gw
  rw [Go.IntWalk.wrap64_in _ ⟨by omega, by omega⟩]
theorem ordR_best (V : Valid l) : ∀ (d k : Nat) (ks : List T3) (out : List Int), ks ≠ [] → (∀ t ∈ ks, Tk l.length t ∧ 0 ≤ lf l fin t ∧ tcnt l.length t = d) → out.length + d = l.length → d ≤ k →
    ∃ t ∈ ks, ∃ p, Cmp l.length (Wt l) fin t.d.toNat t.l.toNat t.s.toNat p (lf l fin t) ∧ ordR l fin k ks out = out ++ up (p.map Prod.fst) ∧
      ∀ t' ∈ ks, ∀ p', Cmp l.length (Wt l) fin t'.d.toNat t'.l.toNat t'.s.toNat p' (lf l fin t') → lexLE (p.map Prod.fst) (p'.map Prod.fst) := by
  have hn := V.le
  intro d
  induction d with
  | zero =>
    intro k ks out hne hks hlen hk
    obtain ⟨t, ht⟩ := List.exists_mem_of_ne_nil ks hne
    obtain ⟨h1, h2, h3⟩ := hks t ht
    obtain ⟨p, hp⟩ := (lf_min (fin := fin) V _ t rfl h1).mem h2
    have hl := hp.len
    unfold tcnt at h3
    rw [h3] at hl
    have : p = [] := List.eq_nil_of_length_eq_zero hl
    subst this
    refine ⟨t, ht, [], hp, ?_, fun t' _ p' _ => trivial⟩
    rw [show ordR l fin k ks out = out from by cases k <;> simp [ordR, show ¬ out.length < l.length by omega]]
    simp [up]
  | succ d ih =>
    intro k ks out hne hks hlen hk
    obtain ⟨k, rfl⟩ : ∃ m, k = m + 1 := ⟨k - 1, by omega⟩
    have hkt : ∀ t ∈ ks, Tk l.length t := fun t ht => (hks t ht).1
    have hnx := nextF_nx (fin := fin) hn hkt
    have hdf : ∀ t ∈ ks, t.d.toNat < 2 ^ l.length ∧ t.d.toNat ≠ 2 ^ l.length - 1 := by
      intro t ht
      obtain ⟨D, L, S, rfl, hD, hL, hS⟩ := hkt t ht
      refine ⟨hD, fun e => ?_⟩
      have h3 : ucnt l.length D = d + 1 := (hks _ ht).2.2
      rw [(ucnt_zero _ _ hD).2 e] at h3
      omega
    -- a way of the least coupling leads on by a good item
    have hgood : ∀ t ∈ ks, ∀ p, Cmp l.length (Wt l) fin t.d.toNat t.l.toNat t.s.toNat p (lf l fin t) → ∃ x, x ∈ itms l fin t l.length ∧ Gw l fin (lf l fin t) x ∧ ∃ b q, p = (x.w, b) :: q ∧ Cmp l.length (Wt l) fin x.t.d.toNat x.t.l.toNat x.t.s.toNat q (lf l fin x.t) := by
      intro t ht p hp
      have h1 := hdf t ht
      have h0 := hkt t ht
      obtain ⟨D, L, S, rfl, hD, hL, hS⟩ := hkt t ht
      simp only [Int.toNat_natCast] at hp h1
      obtain ⟨x, hx, b, q, c', rfl, hc, hq⟩ := cmp_item V hD hp h1.2
      have hxt := (itms_ok hn h0 x hx).1
      have hle := (lf_min (fin := fin) V _ x.t rfl hxt).le ⟨q, hq⟩
      obtain ⟨q', hq'⟩ := (lf_min (fin := fin) V _ x.t rfl hxt).mem hle.1
      obtain ⟨b', hb'⟩ := item_cmp V hD hx hq'
      have hle2 := (lf_min (fin := fin) V _ ⟨D, L, S⟩ rfl h0).le ⟨_, by simpa using hb'⟩
      have e : lf l fin x.t = c' := by omega
      exact ⟨x, hx, (gw_iff V hD hL hS hx _).2 ⟨hle.1, by omega⟩, b, q, rfl, by rw [e]; exact hq⟩
    have hstart : ordR l fin (k + 1) ks out = ordR l fin k (nextF l fin ks).2 (out ++ [(nextF l fin ks).1]) := by
      conv => lhs; unfold ordR
      rw [if_pos (by omega)]
    obtain ⟨t0, ht0⟩ := List.exists_mem_of_ne_nil ks hne
    obtain ⟨p0, hp0⟩ := (lf_min (fin := fin) V _ t0 rfl (hkt t0 ht0)).mem (hks t0 ht0).2.1
    obtain ⟨x0, hx0, hg0, _⟩ := hgood t0 ht0 p0 hp0
    have hlt : (nextF l fin ks).1 < l.length := by
      have h1 := hnx.min x0 ⟨t0, ht0, hx0, hg0⟩
      have h2 := hnx.lt x0 ⟨t0, ht0, hx0, hg0⟩
      omega
    obtain ⟨x1, hx1, e1⟩ := hnx.at_ hlt
    have hmem : ∀ u ∈ (nextF l fin ks).2, ∃ t ∈ ks, ∃ x, x ∈ itms l fin t l.length ∧ Gw l fin (lf l fin t) x ∧ (x.w : Int) = (nextF l fin ks).1 ∧ x.t = u := by
      intro u hu
      obtain ⟨x, ⟨t, a, b, c⟩, d, e⟩ := (hnx.mem u).1 hu
      exact ⟨t, a, x, b, c, d, e⟩
    obtain ⟨u, hu, q, hq, hr, hlex⟩ := ih k (nextF l fin ks).2 (out ++ [(nextF l fin ks).1]) (fun e => by
        have := (hnx.mem x1.t).2 ⟨x1, hx1, e1, rfl⟩
        rw [e] at this
        cases this) (by
        intro u hu
        obtain ⟨t, ht, x, hx, hg, _, rfl⟩ := hmem u hu
        have := itms_ok hn (hkt t ht) x hx
        exact ⟨this.1, hg.1, by have := (hks t ht).2.2; omega⟩) (by simp; omega) (by omega)
    obtain ⟨t, ht, x, hx, hg, hw, rfl⟩ := hmem u hu
    have hres : ordR l fin (k + 1) ks out = out ++ up (x.w :: q.map Prod.fst) := by
      rw [hstart, hr, ← hw]
      simp [up]
    have hsplit : ∃ b, Cmp l.length (Wt l) fin t.d.toNat t.l.toNat t.s.toNat ((x.w, b) :: q) (lf l fin t) := by
      have h0 := hkt t ht
      obtain ⟨D, L, S, rfl, hD, hL, hS⟩ := hkt t ht
      obtain ⟨b, hb⟩ := item_cmp V hD hx hq
      have := ((gw_iff V hD hL hS hx _).1 hg).2
      rw [this] at hb
      exact ⟨b, by simpa using hb⟩
    obtain ⟨b, hb⟩ := hsplit
    refine ⟨t, ht, (x.w, b) :: q, hb, by rw [hres]; rfl, ?_⟩
    intro t' ht' p' hp'
    obtain ⟨x', hx', hg', b', q', rfl, hq'⟩ := hgood t' ht' p' hp'
    have hmin := hnx.min x' ⟨t', ht', hx', hg'⟩
    show lexLE (x.w :: q.map Prod.fst) (x'.w :: q'.map Prod.fst)
    by_cases e : x.w = x'.w
    · exact .inr ⟨e, hlex x'.t ((hnx.mem x'.t).2 ⟨x', ⟨t', ht', hx', hg'⟩, by omega, rfl⟩) q' hq'⟩
    · exact .inl (by omega)
theorem begF_min (s : Int) (ws : List Nat) : ((begF l fin s ws).1 = -1 ∧ ∀ w ∈ ws, lf l fin (begT s w) < 0) ∨ (∃ a w b, ws = a ++ w :: b ∧ begF l fin s ws = (lf l fin (begT s w), w) ∧ 0 ≤ lf l fin (begT s w) ∧ (∀ v ∈ a, lf l fin (begT s v) < 0 ∨ lf l fin (begT s w) < lf l fin (begT s v)) ∧ ∀ v ∈ b, lf l fin (begT s v) < 0 ∨ lf l fin (begT s w) ≤ lf l fin (begT s v)) := by
  suffices h : ∀ (n : Nat), n ≤ ws.length → ((begF l fin s (ws.take n)).1 = -1 ∧ ∀ w ∈ ws.take n, lf l fin (begT s w) < 0) ∨ (∃ a w b, ws.take n = a ++ w :: b ∧ begF l fin s (ws.take n) = (lf l fin (begT s w), w) ∧ 0 ≤ lf l fin (begT s w) ∧ (∀ v ∈ a, lf l fin (begT s v) < 0 ∨ lf l fin (begT s w) < lf l fin (begT s v)) ∧ ∀ v ∈ b, lf l fin (begT s v) < 0 ∨ lf l fin (begT s w) ≤ lf l fin (begT s v)) by
    have := h ws.length (Nat.le_refl _)
    rwa [List.take_length] at this
  intro n
  induction n with
  | zero => exact fun _ => .inl ⟨by simp [begF], by simp⟩
  | succ n ih =>
    intro hn
    have hlt : n < ws.length := by omega
    have e : ws.take (n + 1) = ws.take n ++ [ws[n]] := by rw [List.take_succ_eq_append_getElem hlt]
    have e2 : begF l fin s (ws.take (n + 1)) = if 0 ≤ lf l fin (begT s ws[n]) ∧ ((begF l fin s (ws.take n)).1 < 0 ∨ lf l fin (begT s ws[n]) < (begF l fin s (ws.take n)).1) then (lf l fin (begT s ws[n]), ws[n]) else begF l fin s (ws.take n) := by
      rw [e]
      unfold begF
      rw [List.foldl_append, List.foldl_cons, List.foldl_nil]
    rw [e2, e]
    rcases ih (by omega) with ⟨h1, h2⟩ | ⟨a, w, b, h1, h2, h3, h4, h5⟩
    · by_cases hc : 0 ≤ lf l fin (begT s ws[n])
      · rw [if_pos ⟨hc, .inl (by omega)⟩]
        exact .inr ⟨ws.take n, ws[n], [], rfl, rfl, hc, fun v hv => .inl (h2 v hv), fun v hv => by cases hv⟩
      · rw [if_neg (fun h => hc h.1)]
        refine .inl ⟨h1, fun v hv => ?_⟩
        rcases List.mem_append.1 hv with hv | hv
        · exact h2 v hv
        · obtain rfl := List.mem_singleton.1 hv
          omega
    · rw [h2]
      by_cases hc : 0 ≤ lf l fin (begT s ws[n]) ∧ lf l fin (begT s ws[n]) < lf l fin (begT s w)
      · rw [if_pos ⟨hc.1, .inr hc.2⟩]
        refine .inr ⟨ws.take n, ws[n], [], rfl, rfl, hc.1, fun v hv => ?_, fun v hv => by cases hv⟩
        rw [h1] at hv
        rcases List.mem_append.1 hv with hv | hv
        · rcases h4 v hv with h | h
          · exact .inl h
          · exact .inr (by omega)
        · rcases List.mem_cons.1 hv with rfl | hv
          · exact .inr hc.2
          · rcases h5 v hv with h | h
            · exact .inl h
            · exact .inr (by omega)
      · rw [if_neg (by
          rintro ⟨h6, h7 | h7⟩
          · simp only at h7; omega
          · exact hc ⟨h6, h7⟩)]
        refine .inr ⟨a, w, b ++ [ws[n]], by rw [h1]; simp, rfl, h3, h4, fun v hv => ?_⟩
        rcases List.mem_append.1 hv with hv | hv
        · exact h5 v hv
        · obtain rfl := List.mem_singleton.1 hv
          by_cases h : 0 ≤ lf l fin (begT s ws[n])
          · exact .inr (by
              have := fun h' => hc ⟨h, h'⟩
              omega)
          · exact .inl (by omega)
theorem begT_tk (V : Valid l) {s w : Nat} (hs : s ≤ 9) (hw : w < l.length) : Tk l.length (begT s w) ∧ begT s w = ⟨(2 ^ w : Nat), w, s⟩ := by
  have hn := V.le
  have e : begT s w = ⟨(2 ^ w : Nat), w, s⟩ := by
    unfold begT
    rw [wpow w (by omega)]
  exact ⟨⟨2 ^ w, w, s, e, Nat.pow_lt_pow_right (by decide) hw, hw, hs⟩, e⟩
/-- The coupling of an order from some beginnings is the least one, and the order is the first one of these. -/
theorem orderF_best (V : Valid l) (s : Nat) (hs : s ≤ 9) (ws : List Nat) (hws : ∀ w ∈ ws, w < l.length) (hasc : ws.Pairwise (· < ·)) :
    (orderF l fin s ws = ([], 0, false) ∧ ∀ w ∈ ws, ∀ p c, ¬ Cmp l.length (Wt l) fin (2 ^ w) w s p c) ∨
    (∃ w ∈ ws, ∃ p c, orderF l fin s ws = (up (w :: p.map Prod.fst), c, true) ∧ Cmp l.length (Wt l) fin (2 ^ w) w s p c ∧
      ∀ w' ∈ ws, ∀ p' c', Cmp l.length (Wt l) fin (2 ^ w') w' s p' c' → c ≤ c' ∧ (c' = c → lexLE (w :: p.map Prod.fst) (w' :: p'.map Prod.fst))) := by
  have hmin : ∀ w, w < l.length → IsMin (fun c => ∃ p, Cmp l.length (Wt l) fin (2 ^ w) w s p c) (lf l fin (begT s w)) := by
    intro w hw
    obtain ⟨h1, h2⟩ := begT_tk V hs hw
    refine (lf_min (fin := fin) V _ _ rfl h1).congr fun c => ?_
    rw [h2]
    rfl
  unfold orderF
  rcases begF_min (l := l) (fin := fin) s ws with ⟨h1, h2⟩ | ⟨a, w, b, h1, h2, h3, h4, h5⟩
  · rw [if_pos (by omega)]
    exact .inl ⟨rfl, fun w hw p c h => (hmin w (hws w hw)).of_neg (h2 w hw) c ⟨p, h⟩⟩
  · have hw : w ∈ ws := by rw [h1]; simp
    obtain ⟨t1, t2⟩ := begT_tk V hs (hws w hw)
    rw [h2, if_neg (by simp only; omega)]
    have hc1 : tcnt l.length (begT s w) + 1 = l.length := by
      have h := ucnt_or l.length 0 w (by simp)
      rw [if_pos (hws w hw)] at h
      rw [t2]
      unfold tcnt
      simp only [Int.toNat_natCast]
      rw [Nat.zero_or] at h
      rw [h]
      have : ∀ n, ucnt n 0 = n := by
        intro n
        induction n with
        | zero => rfl
        | succ n ih => rw [ucnt_succ, ih]; simp
      exact this _
    obtain ⟨t, ht, p, hp, hr, hlex⟩ := ordR_best (fin := fin) V (tcnt l.length (begT s w)) 10 [begT s w] [(w : Int)] (by simp) (by
      intro t ht
      obtain rfl := List.mem_singleton.1 ht
      exact ⟨t1, h3, rfl⟩) (by simp; omega) (by have := V.le; omega)
    obtain rfl := List.mem_singleton.1 ht
    have hcm : ∀ (q : List (Nat × Bool)) (c : Int), Cmp l.length (Wt l) fin (begT s w).d.toNat (begT s w).l.toNat (begT s w).s.toNat q c ↔ Cmp l.length (Wt l) fin (2 ^ w) w s q c := by
      intro q c
      rw [t2]
      simp only [Int.toNat_natCast]
    refine .inr ⟨w, hw, p, lf l fin (begT s w), ?_, (hcm _ _).1 hp, ?_⟩
    · simp only
      rw [hr]
      simp [up]
    · intro w' hw' p' c' hc'
      have hle := (hmin w' (hws w' hw')).le ⟨p', hc'⟩
      have hww : lf l fin (begT s w) ≤ lf l fin (begT s w') := by
        rw [h1] at hw'
        rcases List.mem_append.1 hw' with hw' | hw'
        · rcases h4 w' hw' with h | h <;> omega
        · rcases List.mem_cons.1 hw' with rfl | hw'
          · exact Int.le_refl _
          · rcases h5 w' hw' with h | h <;> omega
      refine ⟨by omega, fun e => ?_⟩
      by_cases e2 : w = w'
      · subst e2
        refine .inr ⟨rfl, hlex _ (List.mem_singleton_self _) p' ?_⟩
        have : c' = lf l fin (begT s w) := e
        rw [← this]
        exact (hcm _ _).2 hc'
      · refine .inl ?_
        rw [h1] at hw' hasc
        rcases List.mem_append.1 hw' with hw' | hw'
        · rcases h4 w' hw' with h | h <;> omega
        · rcases List.mem_cons.1 hw' with rfl | hw'
          · exact absurd rfl e2
          · have := (List.pairwise_append.1 hasc).2.1
            exact (List.pairwise_cons.1 this).1 w' hw'
end
end Go.Proofs.Ytaapbnhggfmlpaa.A
end
section
set_option linter.unusedVariables false
namespace Go.Proofs.Ytaapbnhggfmlpaa.B
open Go.RowKit Go.Proofs.Ytaapbnhggfmlpaa.P Go.Proofs.YtaapbnhggfmlpaaW.PrintWords Go.Proofs.YtaapbnhggfmlpaaW.PrintLast Go.Proofs.YtaapbnhggfmlpaaW.PrintMore
/-- Bytes, told as whole numbers. -/
def Bytes (s : List Int) : Prop := s.length ≤ 1048576 ∧ ∀ x ∈ s, 0 ≤ x ∧ x ≤ 255
theorem bytes_of {s : List Int} (hl : s.length ≤ 1048576) (h : ∀ x ∈ s, (Lit.int .u8 x).wf = true) : Bytes s := by
  refine ⟨hl, fun x hx => ?_⟩
  have := h x hx
  simp only [Lit.wf, Bool.and_eq_true, decide_eq_true_eq, show IntKind.u8.min = 0 from rfl, show IntKind.u8.max = 255 from rfl] at this
  exact this
theorem u64_and (x : Int) : ∃ v : Int, wrap64 (Go.bits .and .u64 (IntKind.u64.wrap x / 1099511627776) 255) = v ∧ 0 ≤ v ∧ v ≤ 255 := by
  have h0 : 0 ≤ IntKind.u64.wrap x ∧ IntKind.u64.wrap x < 18446744073709551616 := by
    rw [IntKind.wrap_u64]
    omega
  obtain ⟨a, ha⟩ : ∃ a : Nat, IntKind.u64.wrap x / 1099511627776 = a := ⟨(IntKind.u64.wrap x / 1099511627776).toNat, by omega⟩
  have hlt : a < 2 ^ 24 := by omega
  rw [ha]
  clear h0 ha
  have e := (bits_nat .u64 24 (by decide) (fun n h0 h1 => by rw [IntKind.wrap_u64]; omega) a 255 hlt (by decide)).1
  rw [show ((255 : Nat) : Int) = 255 from rfl] at e
  rw [e]
  have : a &&& 255 ≤ 255 := Nat.and_le_right
  refine ⟨_, w64 (by omega), by omega, by omega⟩
theorem next_ok {s : List Int} (hs : Bytes s) (at_ sd : Int) (h0 : 0 ≤ at_) (h1 : at_ ≤ 1000000000) (k : Nat) (hk : 1 ≤ k) : ∃ v sd', spec_l00Src_next.f k s at_ sd = some (v, at_ + 1, sd') ∧ 0 ≤ v ∧ v ≤ 255 := by
  obtain ⟨k, rfl⟩ : ∃ m, k = m + 1 := ⟨k - 1, by omega⟩
  have hl := hs.1
  have main : ∀ b : Int, 0 ≤ b ∧ b ≤ 255 → ∃ v sd', spec_l00Src_next.j0 (k + 1) b s at_ sd = some (v, at_ + 1, sd') ∧ 0 ≤ v ∧ v ≤ 255 := by
    intro b hb
    simp only [spec_l00Src_next.j0]
    rw [w64 (x := at_ + 1) (by omega)]
    by_cases c : at_ + 1 ≤ (s.length : Int)
    · rw [if_pos c]
      exact ⟨_, _, rfl, hb.1, hb.2⟩
    · rw [if_neg c]
      obtain ⟨v, hv, h2, h3⟩ := u64_and (IntKind.u64.wrap (IntKind.u64.wrap (sd * 6364136223846793005) + IntKind.u64.wrap b) + 1442695040888963407)
      rw [hv]
      exact ⟨_, _, rfl, h2, h3⟩
  unfold spec_l00Src_next.f
  by_cases c : at_ < (s.length : Int)
  · rw [if_pos c, if_pos h0]
    have hr : 0 ≤ rd s at_ ∧ rd s at_ ≤ 255 := by
      obtain ⟨n, rfl⟩ : ∃ n : Nat, at_ = n := ⟨at_.toNat, by omega⟩
      rw [rd_nat]
      exact hs.2 _ (getD_mem (by omega))
    rw [w64 (by omega)]
    exact main _ hr
  · rw [if_neg c]
    exact main 0 (by omega)
theorem pick_ok {s : List Int} (hs : Bytes s) (at_ sd n : Int) (h0 : 0 ≤ at_) (h1 : at_ ≤ 100000000) (k : Nat) (hk : 1 ≤ k) : ∃ v at' sd', spec_l00Src_pick.f k s at_ sd n = some (v, at', sd') ∧ 0 ≤ v ∧ (v < n ∨ (v = 0 ∧ n ≤ 1)) ∧ 0 ≤ at' ∧ at' ≤ at_ + 2 := by
  unfold spec_l00Src_pick.f
  by_cases c : n ≤ 1
  · rw [if_pos c]
    exact ⟨0, at_, sd, rfl, by omega, .inr ⟨rfl, c⟩, h0, by omega⟩
  · rw [if_neg c]
    obtain ⟨v, sd', hv, v0, v1⟩ := next_ok hs at_ sd h0 (by omega) k hk
    rw [hv]
    simp only [Option.bind_some]
    by_cases c2 : n > 200
    · rw [if_pos c2]
      obtain ⟨v2, sd2, hv2, w0, w1⟩ := next_ok hs (at_ + 1) sd' (by omega) (by omega) k hk
      rw [hv2]
      simp only [Option.bind_some]
      rw [if_neg (by omega), w64 (x := v * 256) (by omega), w64 (by omega)]
      refine ⟨_, _, _, rfl, Int.tmod_nonneg _ (by omega), .inl (Int.tmod_lt_of_pos _ (by omega)), by omega, by omega⟩
    · rw [if_neg c2, if_neg (by omega)]
      refine ⟨_, _, _, rfl, Int.tmod_nonneg _ (by omega), .inl (Int.tmod_lt_of_pos _ (by omega)), by omega, by omega⟩
/-- A square table of weights, under way. -/
structure Sq (n : Nat) (l : List (List Int)) : Prop where
  len : l.length = n
  row : ∀ i, i < n → (l.getD i []).length = n
  bound : ∀ i j, i < n → j < n → 0 ≤ Wt l i j ∧ Wt l i j ≤ 1000
  sym : ∀ i j, i < n → j < n → Wt l i j = Wt l j i
  zero : ∀ i, i < n → Wt l i i = 0
theorem Sq.valid {n : Nat} {l : List (List Int)} (h : Sq n l) (h1 : 1 ≤ n) (h9 : n ≤ 9) : Valid l := by
  obtain ⟨rfl, h2, h3, h4, h5⟩ := h
  exact ⟨h1, h9, h2, h3, h4, h5⟩
theorem getD_set {α : Type} (l : List α) (i j : Nat) (x d : α) (hi : i < l.length) : (l.set i x).getD j d = if j = i then x else l.getD j d := by
  simp only [List.getD_eq_getElem?_getD, List.getElem?_set]
  by_cases e : i = j
  · subst e
    simp [hi]
  · rw [if_neg e, if_neg (fun h => e h.symm)]
theorem Sq.put {n : Nat} {l : List (List Int)} (h : Sq n l) {i k : Nat} {w : Int} (hi : i < n) (hk : k < i) (hw : 0 ≤ w ∧ w ≤ 1000) :
    Sq n ((l.set i ((l.getD i []).set k w)).set k (((l.set i ((l.getD i []).set k w)).getD k []).set i w)) := by
  have hl := h.len
  have hik : ¬ k = i := by omega
  have e1 : (l.set i ((l.getD i []).set k w)).getD k [] = l.getD k [] := by rw [getD_set _ _ _ _ _ (by omega), if_neg hik]
  rw [e1]
  have hrow : ∀ a, ((l.set i ((l.getD i []).set k w)).set k ((l.getD k []).set i w)).getD a [] = if a = k then (l.getD k []).set i w else if a = i then (l.getD i []).set k w else l.getD a [] := by
    intro a
    rw [getD_set _ _ _ _ _ (by rw [List.length_set]; omega), getD_set _ _ _ _ _ (by omega)]
  have hW : ∀ a b, a < n → b < n → Wt ((l.set i ((l.getD i []).set k w)).set k ((l.getD k []).set i w)) a b = if (a = i ∧ b = k) ∨ (a = k ∧ b = i) then w else Wt l a b := by
    intro a b ha hb
    unfold Wt
    rw [hrow]
    have r1 := h.row k (by omega)
    have r2 := h.row i hi
    by_cases ca : a = k
    · subst ca
      rw [if_pos rfl, getD_set _ _ _ _ _ (by omega)]
      by_cases cb : b = i
      · rw [if_pos cb, if_pos (.inr ⟨rfl, cb⟩)]
      · rw [if_neg cb, if_neg (by omega)]
    · rw [if_neg ca]
      by_cases ci : a = i
      · subst ci
        rw [if_pos rfl, getD_set _ _ _ _ _ (by omega)]
        by_cases cb : b = k
        · rw [if_pos cb, if_pos (.inl ⟨rfl, cb⟩)]
        · rw [if_neg cb, if_neg (by omega)]
      · rw [if_neg ci, if_neg (by omega)]
  refine ⟨by simp [hl], ?_, ?_, ?_, ?_⟩
  · intro a ha
    rw [hrow]
    by_cases ca : a = k
    · rw [if_pos ca, List.length_set]; exact h.row k (by omega)
    · rw [if_neg ca]
      by_cases ci : a = i
      · rw [if_pos ci, List.length_set]; exact h.row i hi
      · rw [if_neg ci]; exact h.row a ha
  · intro a b ha hb
    rw [hW a b ha hb]
    by_cases c : (a = i ∧ b = k) ∨ (a = k ∧ b = i)
    · rw [if_pos c]; exact hw
    · rw [if_neg c]; exact h.bound a b ha hb
  · intro a b ha hb
    rw [hW a b ha hb, hW b a hb ha]
    by_cases c : (a = i ∧ b = k) ∨ (a = k ∧ b = i)
    · rw [if_pos c, if_pos (by omega)]
    · rw [if_neg c, if_neg (by omega)]; exact h.sym a b ha hb
  · intro a ha
    rw [hW a a ha ha, if_neg (by omega)]
    exact h.zero a ha
theorem Sq.zeros (n : Nat) : Sq n ((List.range n).map fun _ => List.replicate n 0) := by
  have hr : ∀ i, i < n → ((List.range n).map fun _ => List.replicate n (0 : Int)).getD i [] = List.replicate n 0 := by
    intro i hi
    simp [List.getD_eq_getElem?_getD, hi]
  have hW : ∀ i j, i < n → j < n → Wt ((List.range n).map fun _ => List.replicate n 0) i j = 0 := by
    intro i j hi hj
    unfold Wt
    rw [hr i hi]
    simp [List.getD_eq_getElem?_getD, hj]
  refine ⟨by simp, fun i hi => by rw [hr i hi]; simp, fun i j hi hj => by rw [hW i j hi hj]; decide, fun i j hi hj => by rw [hW i j hi hj, hW j i hj hi], fun i hi => hW i i hi hi⟩
section
variable {s : List Int} (hs : Bytes s) (n : Nat) (hn : n ≤ 9)
include hs hn
theorem draw2 (top : Int) (ht : 0 ≤ top ∧ top ≤ 1000) (i : Nat) (hi : i < n) (K : Nat)
    (rest : ∀ (k : Nat) (at_ sd : Int) (l : List (List Int)), K ≤ k → 0 ≤ at_ → at_ ≤ 5000 + 100000 * (i + 1) → Sq n l → ∃ l' a b, spec_l10DrawOk.l1 k n top ((i + 1 : Nat) : Int) s at_ sd l = some (l', a, b) ∧ Sq n l') :
    ∀ (d j k : Nat) (at_ sd : Int) (l : List (List Int)), i - j = d → j ≤ i → K + d + 2 ≤ k → 0 ≤ at_ → at_ ≤ 5000 + 100000 * i + 10 * j → Sq n l → ∃ l' a b, spec_l10DrawOk.l2 k n top i j s at_ sd l = some (l', a, b) ∧ Sq n l' := by
  intro d
  induction d with
  | zero =>
    intro j k at_ sd l hd hj hk h0 h1 hS
    obtain ⟨k, rfl⟩ : ∃ m, k = m + 1 := ⟨k - 1, by omega⟩
    simp only [spec_l10DrawOk.l2]
    rw [if_neg (by omega), w64s hi (by omega)]
    exact rest k at_ sd l (by omega) h0 (by omega) hS
  | succ d ih =>
    intro j k at_ sd l hd hj hk h0 h1 hS
    obtain ⟨k, rfl⟩ : ∃ m, k = m + 1 := ⟨k - 1, by omega⟩
    have hl := hS.len
    simp only [spec_l10DrawOk.l2]
    obtain ⟨v, at', sd', hv, v0, v1, a0, a1⟩ := pick_ok hs at_ sd (top + 1) h0 (by omega) k (by omega)
    rw [if_pos (by omega), w64 (x := top + 1) (by omega), hv]
    simp only [Option.bind_some]
    have r1 := hS.row i hi
    have r2 := hS.row j (by omega)
    have e2 : rd_Ls2 (l.set i ((l.getD i []).set j v)) j = l.getD j [] := by
      rw [rdL_nat, getD_set _ _ _ _ _ (by omega), if_neg (by omega)]
    rw [if_pos (by omega), if_pos (by omega), if_pos (by omega), rdL_nat, if_pos (by rw [r1]; omega)]
    simp only [Int.toNat_natCast]
    rw [if_pos (by omega), e2, if_pos (by rw [r2]; omega), w64s (show j < n by omega) (by omega)]
    have hp := hS.put hi (show j < i by omega) (w := v) (by omega)
    have e3 : ((l.set i ((l.getD i []).set j v)).getD j []) = l.getD j [] := by rw [getD_set _ _ _ _ _ (by omega), if_neg (by omega)]
    rw [e3] at hp
    exact ih (j + 1) k at' sd' _ (by omega) (by omega) (by omega) a0 (by omega) hp
theorem draw1 (top : Int) (ht : 0 ≤ top ∧ top ≤ 1000) : ∀ (d i k : Nat) (at_ sd : Int) (l : List (List Int)), n - i = d → i ≤ n → 20 * d + 1 ≤ k → 0 ≤ at_ → at_ ≤ 5000 + 100000 * i → Sq n l → ∃ l' a b, spec_l10DrawOk.l1 k n top i s at_ sd l = some (l', a, b) ∧ Sq n l' := by
  intro d
  induction d with
  | zero =>
    intro i k at_ sd l hd hi hk h0 h1 hS
    obtain ⟨k, rfl⟩ : ∃ m, k = m + 1 := ⟨k - 1, by omega⟩
    simp only [spec_l10DrawOk.l1]
    rw [if_neg (by omega)]
    exact ⟨l, at_, sd, rfl, hS⟩
  | succ d ih =>
    intro i k at_ sd l hd hi hk h0 h1 hS
    obtain ⟨k, rfl⟩ : ∃ m, k = m + 1 := ⟨k - 1, by omega⟩
    simp only [spec_l10DrawOk.l1]
    rw [if_pos (by omega)]
    exact draw2 hs n hn top ht i (by omega) (20 * d + 1) (fun k at_ sd l hk h0 h1 hS => ih (i + 1) k at_ sd l (by omega) (by omega) hk h0 (by push_cast; omega) hS) i 0 k at_ sd l (by omega) (by omega) (by omega) h0 (by omega) hS
theorem draw0 : ∀ (d i k : Nat) (at_ sd : Int), n - i = d → i ≤ n → d + 300 ≤ k → 0 ≤ at_ → at_ ≤ 1000 → ∃ l' a b, spec_l10DrawOk.l0 k n i s at_ sd ((List.range i).map fun _ => List.replicate n 0) = some (l', a, b) ∧ Sq n l' := by
  intro d
  induction d with
  | zero =>
    intro i k at_ sd hd hi hk h0 h1
    obtain ⟨k, rfl⟩ : ∃ m, k = m + 1 := ⟨k - 1, by omega⟩
    obtain rfl : i = n := by omega
    simp only [spec_l10DrawOk.l0]
    rw [if_neg (by omega)]
    unfold spec_l00Src_among.f
    obtain ⟨v, at', sd', hv, v0, v1, a0, a1⟩ := pick_ok hs at_ sd 3 h0 (by omega) k (by omega)
    rw [show ((([3, 10, 1000] : List Int).length : Nat) : Int) = 3 from rfl, hv]
    simp only [Option.bind_some]
    rw [if_pos v0, if_pos (by omega)]
    simp only [Option.bind_some]
    have ht : 0 ≤ rd ([3, 10, 1000] : List Int) v ∧ rd ([3, 10, 1000] : List Int) v ≤ 1000 := by
      have : v = 0 ∨ v = 1 ∨ v = 2 := by omega
      rcases this with rfl | rfl | rfl <;> decide
    obtain ⟨l', a, b, h, hS⟩ := draw1 hs i hn _ ht i 0 k at' sd' _ (by omega) (by omega) (by omega) a0 (by omega) (Sq.zeros i)
    exact ⟨l', a, b, h, hS⟩
  | succ d ih =>
    intro i k at_ sd hd hi hk h0 h1
    obtain ⟨k, rfl⟩ : ∃ m, k = m + 1 := ⟨k - 1, by omega⟩
    simp only [spec_l10DrawOk.l0]
    rw [if_pos (by omega), if_pos (by omega), if_pos (by omega), if_pos (by simp; omega), w64s (show i < n by omega) (by omega)]
    simp only [Int.toNat_natCast]
    have e : ((List.range i).map fun _ => List.replicate n (0 : Int)) ++ [List.replicate n 0] = (List.range (i + 1)).map fun _ => List.replicate n 0 := by
      rw [List.range_succ, List.map_append]
      rfl
    rw [e]
    exact ih (i + 1) k at_ sd (by omega) (by omega) (by omega) h0 h1
end
/-- The bundle that a law draws. -/
theorem r8Bundle {s : List Int} (hs : Bytes s) (k : Nat) (hk : 400 ≤ k) : ∃ l, spec_R8Bundle.f k s = some l ∧ Valid l ∧ l.length ≤ 6 := by
  unfold spec_R8Bundle.f spec_l00From.f spec_l10DrawOk.f
  simp only [Option.bind_some]
  obtain ⟨v, at', sd', hv, v0, v1, a0, a1⟩ := pick_ok hs 0 0 6 (by omega) (by omega) k (by omega)
  rw [hv]
  simp only [Option.bind_some]
  obtain ⟨n, rfl⟩ : ∃ n : Nat, v = n := ⟨v.toNat, by omega⟩
  rw [w64 (by omega), show (1 : Int) + (n : Int) = ((n + 1 : Nat) : Int) by push_cast; omega]
  obtain ⟨l', a, b, h, hS⟩ := draw0 hs (n + 1) (by omega) (n + 1) 0 k at' sd' (by omega) (by omega) (by omega) a0 (by omega)
  simp only [List.range_zero, List.map_nil, Int.natCast_zero] at h
  rw [h]
  exact ⟨l', rfl, hS.valid (by omega) (by omega), by have := hS.len; omega⟩
/-- An order of n wires, told as whole numbers. -/
structure Ord (n : Nat) (xs : List Int) : Prop where
  len : xs.length = n
  bd : ∀ j, j < n → 0 ≤ xs.getD j 0 ∧ xs.getD j 0 < n
  inj : ∀ i j, i < n → j < n → xs.getD i 0 = xs.getD j 0 → i = j
theorem Ord.swap {n : Nat} {xs : List Int} (h : Ord n xs) {i k : Nat} (hi : i < n) (hk : k < n) : Ord n ((xs.set k (xs.getD i 0)).set i (xs.getD k 0)) := by
  have hl := h.len
  have hg : ∀ j, ((xs.set k (xs.getD i 0)).set i (xs.getD k 0)).getD j 0 = xs.getD (if j = i then k else if j = k then i else j) 0 := by
    intro j
    rw [getD_set _ _ _ _ _ (by rw [List.length_set]; omega), getD_set _ _ _ _ _ (by omega)]
    split
    · rfl
    · split <;> rfl
  refine ⟨by simp [hl], fun j hj => ?_, fun a b ha hb e => ?_⟩
  · rw [hg]
    exact h.bd _ (by
      by_cases c : j = i
      · rw [if_pos c]; exact hk
      · rw [if_neg c]
        by_cases c2 : j = k
        · rw [if_pos c2]; exact hi
        · rw [if_neg c2]; exact hj)
  · rw [hg, hg] at e
    have lt : ∀ j, j < n → (if j = i then k else if j = k then i else j) < n := by
      intro j hj
      by_cases c : j = i
      · rw [if_pos c]; exact hk
      · rw [if_neg c]
        by_cases c2 : j = k
        · rw [if_pos c2]; exact hi
        · rw [if_neg c2]; exact hj
    have := h.inj _ _ (lt a ha) (lt b hb) e
    by_cases c1 : a = i <;> by_cases c2 : a = k <;> by_cases c3 : b = i <;> by_cases c4 : b = k <;> simp only [c1, c2, c3, c4, if_true, if_false] at this <;> (try split at this) <;> (try split at this) <;> omega
theorem Ord.range (n : Nat) : Ord n ((List.range n).map fun x : Nat => (x : Int)) := by
  have hg : ∀ j, j < n → ((List.range n).map fun x : Nat => (x : Int)).getD j 0 = j := by
    intro j hj
    simp [List.getD_eq_getElem?_getD, hj]
  refine ⟨by simp, fun j hj => by rw [hg j hj]; omega, fun i j hi hj e => by rw [hg i hi, hg j hj] at e; omega⟩
section
variable {s : List Int} (hs : Bytes s) (n : Nat) (hn : n ≤ 9)
include hs hn
theorem ord1 : ∀ (i k : Nat) (at_ sd : Int) (xs : List Int), i < n → i + 2 ≤ k → 0 ≤ at_ → at_ + 10 * i ≤ 10000 → Ord n xs → ∃ ys, spec_R8Order.l1 k xs i s at_ sd = some ys ∧ Ord n ys := by
  intro i
  induction i with
  | zero =>
    intro k at_ sd xs hi hk h0 h1 hO
    obtain ⟨k, rfl⟩ : ∃ m, k = m + 1 := ⟨k - 1, by omega⟩
    simp only [spec_R8Order.l1]
    rw [if_neg (by omega)]
    exact ⟨xs, rfl, hO⟩
  | succ i ih =>
    intro k at_ sd xs hi hk h0 h1 hO
    obtain ⟨k, rfl⟩ : ∃ m, k = m + 1 := ⟨k - 1, by omega⟩
    simp only [spec_R8Order.l1]
    have hl := hO.len
    rw [if_pos (by omega), w64 (x := ((i + 1 : Nat) : Int) + 1) (by omega)]
    obtain ⟨v, at', sd', hv, v0, v1, a0, a1⟩ := pick_ok hs at_ sd (((i + 1 : Nat) : Int) + 1) h0 (by omega) k (by omega)
    rw [hv]
    simp only [Option.bind_some]
    obtain ⟨m, rfl⟩ : ∃ m : Nat, v = m := ⟨v.toNat, by omega⟩
    rw [if_pos (by omega), if_pos (by omega), if_pos (by omega), if_pos (by omega), rd_nat, rd_nat, Int.toNat_natCast, Int.toNat_natCast, w64 (by omega), show ((i + 1 : Nat) : Int) - 1 = (i : Int) by omega]
    exact ih k at' sd' _ (by omega) (by omega) a0 (by omega) (hO.swap hi (by omega))
theorem ord0 (h1n : 1 ≤ n) : ∀ (d i k : Nat), n - i = d → i ≤ n → d + 20 ≤ k → ∃ ys, spec_R8Order.l0 k n ((List.range i).map fun x : Nat => (x : Int)) i s 0 0 = some ys ∧ Ord n ys := by
  intro d
  induction d with
  | zero =>
    intro i k hd hi hk
    obtain ⟨k, rfl⟩ : ∃ m, k = m + 1 := ⟨k - 1, by omega⟩
    obtain rfl : i = n := by omega
    simp only [spec_R8Order.l0]
    rw [if_neg (by omega), w64 (by omega), show (i : Int) - 1 = ((i - 1 : Nat) : Int) by omega]
    exact ord1 hs i hn (i - 1) k 0 0 _ (by omega) (by omega) (by omega) (by omega) (Ord.range i)
  | succ d ih =>
    intro i k hd hi hk
    obtain ⟨k, rfl⟩ : ∃ m, k = m + 1 := ⟨k - 1, by omega⟩
    simp only [spec_R8Order.l0]
    rw [if_pos (by omega), if_pos (by simp; omega), w64s (show i < n by omega) (by omega)]
    have e : ((List.range i).map fun x : Nat => (x : Int)) ++ [(i : Int)] = (List.range (i + 1)).map fun x : Nat => (x : Int) := by rw [List.range_succ, List.map_append]; rfl
    rw [e]
    exact ih (i + 1) k (by omega) (by omega) (by omega)
/-- The order that a law draws. -/
theorem r8Order (h1n : 1 ≤ n) (k : Nat) (hk : 40 ≤ k) : ∃ ys, spec_R8Order.f k s n = some ys ∧ Ord n ys := by
  unfold spec_R8Order.f spec_l00From.f
  simp only [Option.bind_some]
  have := ord0 hs n hn h1n n 0 k (by omega) (by omega) (by omega)
  simpa using this
end
end Go.Proofs.Ytaapbnhggfmlpaa.B
end
