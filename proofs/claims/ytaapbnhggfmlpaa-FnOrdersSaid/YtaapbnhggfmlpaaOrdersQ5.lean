/- Lemmas and contracts of functions, part 5 of 7, for this law: The law FnOrders holds for every input: the best order has its coupling with the best shields, no drawn order has a lesser one with as many nor comes before it with the same, and without shields it is at least the tree bound. -/
import Derived.Test.YtaapbnhggfmlpaaOrdersQ4
import Derived.StillTailTactics
import Derived.Outline
import Derived.Handy
import Derived.IntWalk
import Derived.Test.YtaapbnhggfmlpaaOrdersQ1
section
set_option linter.unusedVariables false
set_option linter.unusedSimpArgs false
namespace Go.Proofs.Ytaapbnhggfmlpaa.P
open Go.RowKit Go.Proofs.YtaapbnhggfmlpaaW.PrintWords Go.Proofs.YtaapbnhggfmlpaaW.PrintLast Go.Proofs.YtaapbnhggfmlpaaW.PrintMore
open Go.Proofs.Ytaapbnhggfmlpaa.M Go.Proofs.Ytaapbnhggfmlpaa.A
set_option maxHeartbeats 2000000 in
set_option maxRecDepth 100000 in
theorem order1_ (w0 : World) (gp gb gm cW cP cV cN gx : Nat) (A : Option Addr) (c : Nat) (l : List (List Int)) (fin wi want : Int) (ks : List T3) (x : Itm) (w : World) (hn : l.length ≤ 9) (hrow : ∀ j : Nat, j < l.length → (rd_Ls2 l j).length = l.length)
    (hx : Tk l.length x.t) (hW : PW w0 gp gb gm A c l fin w) (hM : Mem l fin gm w) (hks : KOk l.length ks)
    (bW : w.heap[cW]? = some (.cells #[.int .i64 wi] 3 (0, 0))) (bP : w.heap[cP]? = some (.cells #[.pointer (some ⟨gp, 0, none⟩)] 147 (0, 0))) (bV : w.heap[cV]? = some (.cells #[.int .i64 want] 2 (0, 0))) (bN : w.heap[cN]? = some (.cells #[.map (some gx)] 111 (0, 0)))
    (hG : TM w gx ks.length (kf l fin ks)) (nW : cW ≠ gm) (nP : cP ≠ gm) (nV : cV ≠ gm) (nN : cN ≠ gm) (nX : gx ≠ gm) (mW : w0.heap.size ≤ cW) (mX : w0.heap.size ≤ gx)
    (nWp : cW ≠ gp) (nWb : cW ≠ gb) (nXW : gx ≠ cW) (nWP : cW ≠ cP) (nWN : cW ≠ cN) :
    Calls Try.prog 125 (#[.int .i64 x.w, .int .i64 x.c, x.t.v] ++ #[.pointer (some ⟨cW, 0, none⟩), .pointer (some ⟨cP, 0, none⟩), .pointer (some ⟨cV, 0, none⟩), .pointer (some ⟨cN, 0, none⟩)]) w fun e w' => e = .returned (.tuple #[]) ∧ Mem l fin gm w' ∧
      w'.heap[cW]? = some (.cells #[.int .i64 (stepN l fin want (wi, ks) x).1] 3 (0, 0)) ∧ TM w' gx (stepN l fin want (wi, ks) x).2.length (kf l fin (stepN l fin want (wi, ks) x).2) ∧ Fr (fun k => k = gm ∨ k = cW ∨ k = gx) w w' := by
  show Calls Try.prog 125 #[.int .i64 x.w, .int .i64 x.c, x.t.v, .pointer (some ⟨cW, 0, none⟩), .pointer (some ⟨cP, 0, none⟩), .pointer (some ⟨cV, 0, none⟩), .pointer (some ⟨cN, 0, none⟩)] w _
  have HROW := Aside0.mk hrow
  have HT0 := Aside0.mk hx
  have HW := Aside0.mk hW
  have HM := Aside0.mk hM
  have HKS := Aside0.mk hks
  have BKW := Aside0.mk bW
  have BKP := Aside0.mk bP
  have BKV := Aside0.mk bV
  have BKN := Aside0.mk bN
  have HG := Aside0.mk hG
  have NW := Aside0.mk nW
  have NP := Aside0.mk nP
  have NV := Aside0.mk nV
  have NN := Aside0.mk nN
  have NX := Aside0.mk nX
  have MW := Aside0.mk mW
  have MX := Aside0.mk mX
  have NWx := Aside0.mk (And.intro nWp (And.intro nWb (And.intro nXW (And.intro nWP nWN))))
  clear hrow hx hW hM hks bW bP bV bN hG nW nP nV nN nX nWp nWb nXW nWP nWN mW mX
  have hu150 := Try.underlying150
  have hu147 := Try.underlying147
  have hu111 := Try.underlying111
  obtain ⟨xw, xc, d, tl, ts⟩ := x
  have HT : Aside0 (Tk l.length ⟨d, tl, ts⟩) := ⟨HT0.out⟩
  have HTC : Aside0 (tcnt l.length ⟨d, tl, ts⟩ < 10) := ⟨by have := ucnt_le l.length (T3.d ⟨d, tl, ts⟩).toNat; unfold tcnt; omega⟩
  clear HT0
  go_enter Try.func125, Try.ntmps125
  go_wp2_with (first
      | ((with_reducible refine gate_dst (N := 9) rfl ?_); refine box_event ?hg (N := 9) ?hd (cs := #[.int .i64 d, .int .i64 tl, .int .i64 ts]) (t := 150) ?hr ?_; (case hd => rfl); (case hg => rfl); (case hr => first | (go_simp; done) | (go_simp; rfl)); intro gt hg w2 hbox hb; have NTT := Aside0.mk (show gt ≠ gm from fun e => by have := HM.out.lt; omega); have HFR := Aside0.mk (Fr.of_below (F := fun k => k = gm ∨ k = cW ∨ k = gx) hb);
         have n1_ := Aside0.mk (blk_below BKW.out hb); have n2_ := Aside0.mk (blk_below BKP.out hb); have n3_ := Aside0.mk (blk_below BKV.out hb); have n4_ := Aside0.mk (blk_below BKN.out hb); have n5_ := Aside0.mk (HW.out.below hb); have n6_ := Aside0.mk (HM.out.below hb); have n7_ := Aside0.mk (HG.out.heap (hb.block _ HG.out.lt)); have BKT := Aside0.mk hbox;
         clear BKW BKP BKV BKN HW HM HG hg hb hbox; have BKW := n1_; have BKP := n2_; have BKV := n3_; have BKN := n4_; have HW := n5_; have HM := n6_; have HG := n7_; clear n1_ n2_ n3_ n4_ n5_ n6_ n7_))
  have hcW := (blk_cell BKW.out 0).trans rfl
  have hcP := (blk_cell BKP.out 0).trans rfl
  have hcV := (blk_cell BKV.out 0).trans rfl
  have hcN := (blk_cell BKN.out 0).trans rfl
  have hd0 := (blk_cell BKT.out 0).trans rfl
  have hd1 := (blk_cell BKT.out 1).trans rfl
  have hd2 := (blk_cell BKT.out 2).trans rfl
  by_cases c1 : wi < (xw : Int)
  · have c1b : decide (wi < (xw : Int)) = true := decide_eq_true c1
    refine start_ (n := 18) (S := fun w' => w'.cell? ⟨cW, 0, none⟩ = some (.int .i64 wi) ∧ w'.cell? ⟨cP, 0, none⟩ = some (.pointer (some ⟨gp, 0, none⟩)) ∧ w'.cell? ⟨cV, 0, none⟩ = some (.int .i64 want) ∧ w'.cell? ⟨gt, 0, none⟩ = some (.int .i64 d) ∧ w'.cell? ⟨gt, 1, none⟩ = some (.int .i64 tl) ∧ w'.cell? ⟨gt, 2, none⟩ = some (.int .i64 ts)) (ds := []) #[false, false, false, false, false, false, false, false, false, false, false, false, false, false, false, false, false, false] (by kernel_rfl) rfl rfl ⟨hcW, hcP, hcV, hd0, hd1, hd2⟩ (fun hHeld => ?_)
    refine pure_ (i := 0) (N := some 10) (v := ?_) (a' := ?_) #[true, false, false, false, false, false, false, false, false, false, false, false, false, false, false, false, false, false] rfl rfl (by kernel_rfl) (fun _ _ _ h => h) (Or.inl ⟨by rfl, ?_⟩) ?_ ?_
    rotate_left
    · intro w'
      go_simp
      with_reducible rfl
    rotate_left
    · simp only [Act.put, List.setIfInBounds_toArray, List.set_cons_zero, List.set_cons_succ, i64_w, i32_w]
      rfl
    refine take_ (i := 1) (N := some 11) (v := ?_) (a' := ?_) #[true, true, false, false, false, false, false, false, false, false, false, false, false, false, false, false, false, false] rfl rfl (by kernel_rfl) (fun _ _ _ h => h) (Or.inl ⟨by rfl, ?_⟩) hHeld ?_ ?_
    rotate_left
    · rintro w' ⟨s0, s1, s2, s3, s4, s5⟩
      go_simp
      with_reducible rfl
    rotate_left
    · simp only [Act.put, List.setIfInBounds_toArray, List.set_cons_zero, List.set_cons_succ, i64_w, i32_w]
      rfl
    refine pure_ (i := 2) (N := some 12) (v := ?_) (a' := ?_) #[true, true, true, false, false, false, false, false, false, false, false, false, false, false, false, false, false, false] rfl rfl (by kernel_rfl) (fun _ _ _ h => h) (Or.inl ⟨by rfl, ?_⟩) ?_ ?_
    rotate_left
    · intro w'
      go_simp
      with_reducible rfl
    rotate_left
    · simp only [Act.put, List.setIfInBounds_toArray, List.set_cons_zero, List.set_cons_succ, i64_w, i32_w]
      rfl
    refine pure_ (i := 3) (N := some 13) (v := ?_) (a' := ?_) #[true, true, true, true, false, false, false, false, false, false, false, false, false, false, false, false, false, false] rfl rfl (by kernel_rfl) (fun _ _ _ h => h) (Or.inl ⟨by rfl, ?_⟩) ?_ ?_
    rotate_left
    · intro w'
      go_simp
      with_reducible rfl
    rotate_left
    · simp only [Act.put, List.setIfInBounds_toArray, List.set_cons_zero, List.set_cons_succ, i64_w, i32_w]
      rfl
    refine pure_ (i := 4) (N := some 14) (v := undef) (a' := ?_) #[true, true, true, true, true, false, false, false, false, false, false, false, false, false, false, false, false, false] rfl rfl (by kernel_rfl) (fun _ _ _ h => h) (Or.inr ⟨by rfl, rfl⟩) ?_ ?_
    rotate_left
    · simp only [Act.put, List.setIfInBounds_toArray, List.set_cons_zero, List.set_cons_succ, i64_w, i32_w]
      rfl
    refine pure_ (i := 5) (N := some 15) (v := undef) (a' := ?_) #[true, true, true, true, true, true, false, false, false, false, false, false, false, false, false, false, false, false] rfl rfl (by kernel_rfl) (fun _ _ _ h => h) (Or.inr ⟨by rfl, rfl⟩) ?_ ?_
    rotate_left
    · simp only [Act.put, List.setIfInBounds_toArray, List.set_cons_zero, List.set_cons_succ, i64_w, i32_w]
      rfl
    refine pure_ (i := 6) (N := some 16) (v := undef) (a' := ?_) #[true, true, true, true, true, true, true, false, false, false, false, false, false, false, false, false, false, false] rfl rfl (by kernel_rfl) (fun _ _ _ h => h) (Or.inr ⟨by rfl, rfl⟩) ?_ ?_
    rotate_left
    · simp only [Act.put, List.setIfInBounds_toArray, List.set_cons_zero, List.set_cons_succ, i64_w, i32_w]
      rfl
    refine pure_ (i := 7) (N := some 17) (v := undef) (a' := ?_) #[true, true, true, true, true, true, true, true, false, false, false, false, false, false, false, false, false, false] rfl rfl (by kernel_rfl) (fun _ _ _ h => h) (Or.inr ⟨by rfl, rfl⟩) ?_ ?_
    rotate_left
    · simp only [Act.put, List.setIfInBounds_toArray, List.set_cons_zero, List.set_cons_succ, i64_w, i32_w]
      rfl
    refine pure_ (i := 8) (N := some 18) (v := ?_) (a' := ?_) #[true, true, true, true, true, true, true, true, true, false, false, false, false, false, false, false, false, false] rfl rfl (by kernel_rfl) (fun _ _ _ h => h) (Or.inl ⟨by rfl, ?_⟩) ?_ ?_
    rotate_left
    · intro w'
      go_simp
      with_reducible rfl
    rotate_left
    · simp only [Act.put, List.setIfInBounds_toArray, List.set_cons_zero, List.set_cons_succ, i64_w, i32_w]
      rfl
    refine pure_ (i := 9) (N := some 19) (v := ?_) (a' := ?_) #[true, true, true, true, true, true, true, true, true, true, false, false, false, false, false, false, false, false] rfl rfl (by kernel_rfl) (fun _ _ _ h => h) (Or.inl ⟨by rfl, ?_⟩) ?_ ?_
    rotate_left
    · intro w'
      go_simp
      with_reducible rfl
    rotate_left
    · simp only [Act.put, List.setIfInBounds_toArray, List.set_cons_zero, List.set_cons_succ, i64_w, i32_w]
      rfl
    refine pure_ (i := 10) (N := some 20) (v := undef) (a' := ?_) #[true, true, true, true, true, true, true, true, true, true, true, false, false, false, false, false, false, false] rfl rfl (by kernel_rfl) (fun _ _ _ h => h) (Or.inr ⟨by rfl, rfl⟩) ?_ ?_
    rotate_left
    · simp only [Act.put, List.setIfInBounds_toArray, List.set_cons_zero, List.set_cons_succ, i64_w, i32_w]
      rfl
    refine pure_ (i := 11) (N := some 21) (v := undef) (a' := ?_) #[true, true, true, true, true, true, true, true, true, true, true, true, false, false, false, false, false, false] rfl rfl (by kernel_rfl) (fun _ _ _ h => h) (Or.inr ⟨by rfl, rfl⟩) ?_ ?_
    rotate_left
    · simp only [Act.put, List.setIfInBounds_toArray, List.set_cons_zero, List.set_cons_succ, i64_w, i32_w]
      rfl
    refine pure_ (i := 12) (N := some 22) (v := undef) (a' := ?_) #[true, true, true, true, true, true, true, true, true, true, true, true, true, false, false, false, false, false] rfl rfl (by kernel_rfl) (fun _ _ _ h => h) (Or.inr ⟨by rfl, rfl⟩) ?_ ?_
    rotate_left
    · simp only [Act.put, List.setIfInBounds_toArray, List.set_cons_zero, List.set_cons_succ, i64_w, i32_w]
      rfl
    refine pure_ (i := 13) (N := some 23) (v := undef) (a' := ?_) #[true, true, true, true, true, true, true, true, true, true, true, true, true, true, false, false, false, false] rfl rfl (by kernel_rfl) (fun _ _ _ h => h) (Or.inr ⟨by rfl, rfl⟩) ?_ ?_
    rotate_left
    · simp only [Act.put, List.setIfInBounds_toArray, List.set_cons_zero, List.set_cons_succ, i64_w, i32_w]
      rfl
    refine pure_ (i := 14) (N := some 24) (v := undef) (a' := ?_) #[true, true, true, true, true, true, true, true, true, true, true, true, true, true, true, false, false, false] rfl rfl (by kernel_rfl) (fun _ _ _ h => h) (Or.inr ⟨by rfl, rfl⟩) ?_ ?_
    rotate_left
    · simp only [Act.put, List.setIfInBounds_toArray, List.set_cons_zero, List.set_cons_succ, i64_w, i32_w]
      rfl
    refine pure_ (i := 15) (N := some 25) (v := undef) (a' := ?_) #[true, true, true, true, true, true, true, true, true, true, true, true, true, true, true, true, false, false] rfl rfl (by kernel_rfl) (fun _ _ _ h => h) (Or.inr ⟨by rfl, rfl⟩) ?_ ?_
    rotate_left
    · simp only [Act.put, List.setIfInBounds_toArray, List.set_cons_zero, List.set_cons_succ, i64_w, i32_w]
      rfl
    refine pure_ (i := 16) (N := some 26) (v := undef) (a' := ?_) #[true, true, true, true, true, true, true, true, true, true, true, true, true, true, true, true, true, false] rfl rfl (by kernel_rfl) (fun _ _ _ h => h) (Or.inr ⟨by rfl, rfl⟩) ?_ ?_
    rotate_left
    · simp only [Act.put, List.setIfInBounds_toArray, List.set_cons_zero, List.set_cons_succ, i64_w, i32_w]
      rfl
    refine pure_ (i := 17) (N := some 27) (v := ?_) (a' := ?_) #[true, true, true, true, true, true, true, true, true, true, true, true, true, true, true, true, true, true] rfl rfl (by kernel_rfl) (fun _ _ _ h => h) (Or.inl ⟨by rfl, ?_⟩) ?_ ?_
    rotate_left
    · intro w'
      go_simp
      with_reducible rfl
    rotate_left
    · simp only [Act.put, List.setIfInBounds_toArray, List.set_cons_zero, List.set_cons_succ, i64_w, i32_w]
      rfl
    refine done_ (by kernel_rfl) ?_

    go_wp2
    first | go_end0 | ((try simp only [Exit.inBlock, Exit.then]); refine bodyPost_ret (results_none rfl _ _ _) rfl ?_)
    have e : stepN l fin want (wi, ks) ⟨xw, xc, ⟨d, tl, ts⟩⟩ = (wi, ks) := if_pos (.inl c1)
    rw [e]
    exact ⟨rfl, HM.out.below (by repeat first | exact Below.refl _ _ | refine pw_below_drewN ?_ _ | refine Below.drew ?_), BKW.out, HG.out.heap rfl, HFR.out.trans (Fr.of_below (by repeat first | exact Below.refl _ _ | refine pw_below_drewN ?_ _ | refine Below.drew ?_))⟩
  · have c1b : decide (wi < (xw : Int)) = false := decide_eq_false c1
    by_cases c2 : lf l fin ⟨d, tl, ts⟩ < 0
    · have c2b : decide (lf l fin ⟨d, tl, ts⟩ < 0) = true := decide_eq_true c2
      refine start_ (n := 18) (S := fun w' => w'.cell? ⟨cW, 0, none⟩ = some (.int .i64 wi) ∧ w'.cell? ⟨cP, 0, none⟩ = some (.pointer (some ⟨gp, 0, none⟩)) ∧ w'.cell? ⟨cV, 0, none⟩ = some (.int .i64 want) ∧ w'.cell? ⟨gt, 0, none⟩ = some (.int .i64 d) ∧ w'.cell? ⟨gt, 1, none⟩ = some (.int .i64 tl) ∧ w'.cell? ⟨gt, 2, none⟩ = some (.int .i64 ts)) (ds := []) #[false, false, false, false, false, false, false, false, false, false, false, false, false, false, false, false, false, false] (by kernel_rfl) rfl rfl ⟨hcW, hcP, hcV, hd0, hd1, hd2⟩ (fun hHeld => ?_)
      refine pure_ (i := 0) (N := some 10) (v := ?_) (a' := ?_) #[true, false, false, false, false, false, false, false, false, false, false, false, false, false, false, false, false, false] rfl rfl (by kernel_rfl) (fun _ _ _ h => h) (Or.inl ⟨by rfl, ?_⟩) ?_ ?_
      rotate_left
      · intro w'
        go_simp
        with_reducible rfl
      rotate_left
      · simp only [Act.put, List.setIfInBounds_toArray, List.set_cons_zero, List.set_cons_succ, i64_w, i32_w]
        rfl
      refine take_ (i := 1) (N := some 11) (v := ?_) (a' := ?_) #[true, true, false, false, false, false, false, false, false, false, false, false, false, false, false, false, false, false] rfl rfl (by kernel_rfl) (fun _ _ _ h => h) (Or.inl ⟨by rfl, ?_⟩) hHeld ?_ ?_
      rotate_left
      · rintro w' ⟨s0, s1, s2, s3, s4, s5⟩
        go_simp
        with_reducible rfl
      rotate_left
      · simp only [Act.put, List.setIfInBounds_toArray, List.set_cons_zero, List.set_cons_succ, i64_w, i32_w]
        rfl
      refine pure_ (i := 2) (N := some 12) (v := ?_) (a' := ?_) #[true, true, true, false, false, false, false, false, false, false, false, false, false, false, false, false, false, false] rfl rfl (by kernel_rfl) (fun _ _ _ h => h) (Or.inl ⟨by rfl, ?_⟩) ?_ ?_
      rotate_left
      · intro w'
        go_simp
        with_reducible rfl
      rotate_left
      · simp only [Act.put, List.setIfInBounds_toArray, List.set_cons_zero, List.set_cons_succ, i64_w, i32_w]
        rfl
      refine pure_ (i := 3) (N := some 13) (v := ?_) (a' := ?_) #[true, true, true, true, false, false, false, false, false, false, false, false, false, false, false, false, false, false] rfl rfl (by kernel_rfl) (fun _ _ _ h => h) (Or.inl ⟨by rfl, ?_⟩) ?_ ?_
      rotate_left
      · intro w'
        go_simp
        with_reducible rfl
      rotate_left
      · simp only [Act.put, List.setIfInBounds_toArray, List.set_cons_zero, List.set_cons_succ, i64_w, i32_w]
        rfl
      refine take_ (i := 4) (N := some 14) (v := ?_) (a' := ?_) #[true, true, true, true, true, false, false, false, false, false, false, false, false, false, false, false, false, false] rfl rfl (by kernel_rfl) (fun _ _ _ h => h) (Or.inl ⟨by rfl, ?_⟩) hHeld ?_ ?_
      rotate_left
      · rintro w' ⟨s0, s1, s2, s3, s4, s5⟩
        go_simp
        with_reducible rfl
      rotate_left
      · simp only [Act.put, List.setIfInBounds_toArray, List.set_cons_zero, List.set_cons_succ, i64_w, i32_w]
        rfl
      refine take_ (i := 5) (N := some 15) (v := ?_) (a' := ?_) #[true, true, true, true, true, true, false, false, false, false, false, false, false, false, false, false, false, false] rfl rfl (by kernel_rfl) (fun _ _ _ h => h) (Or.inl ⟨by rfl, ?_⟩) hHeld ?_ ?_
      rotate_left
      · rintro w' ⟨s0, s1, s2, s3, s4, s5⟩
        go_simp
        with_reducible rfl
      rotate_left
      · simp only [Act.put, List.setIfInBounds_toArray, List.set_cons_zero, List.set_cons_succ, i64_w, i32_w]
        rfl
      refine one_ (i := 6) (N := some 16) #[true, true, true, true, true, true, true, false, false, false, false, false, false, false, false, false, false, false] rfl rfl (by kernel_rfl) (by decide) (fun K hK => ?_)
      refine goes_ Try.func123 (by kernel_rfl) rfl #[.pointer (some ⟨gp, 0, none⟩), .agg #[.int .i64 d, .int .i64 tl, .int .i64 ts]] (by rfl) rfl rfl (by simp only [List.map_toArray, List.map_cons, List.map_nil]; rfl) ?_
      refine (left_ w0 gp gb gm A c l fin hn HROW.out 10 ⟨d, tl, ts⟩ _ HTC.out HT.out (PW.below (w' := w2.drew) HW.out (by repeat first | exact Below.refl _ _ | refine pw_below_drewN ?_ _ | refine Below.drew ?_)) (HM.out.below (by repeat first | exact Below.refl _ _ | refine pw_below_drewN ?_ _ | refine Below.drew ?_))).mono ?_
      rintro e w3_ ⟨rfl, hM_, hF_⟩
      refine ⟨_, rfl, ?_⟩
      have HFw3_ := Aside0.mk (Fr.then_ (HFR.out.trans (Fr.of_below (by repeat first | exact Below.refl _ _ | refine pw_below_drewN ?_ _ | refine Below.drew ?_))) hF_ (fun i hi => .inl (.inl hi)))
      have HMw3_ := Aside0.mk hM_
      have HWw3_ := Aside0.mk (PW.fr (PW.below (w' := w2.drew) HW.out (by repeat first | exact Below.refl _ _ | refine pw_below_drewN ?_ _ | refine Below.drew ?_)) hF_ (fun k e => e ▸ HW.out.ge) HW.out.np HW.out.nb)
      have BKWw3_ := Aside0.mk (hF_.blk (show w2.drew.heap[_]? = _ from BKW.out) NW.out)
      have BKPw3_ := Aside0.mk (hF_.blk (show w2.drew.heap[_]? = _ from BKP.out) NP.out)
      have BKVw3_ := Aside0.mk (hF_.blk (show w2.drew.heap[_]? = _ from BKV.out) NV.out)
      have BKTw3_ := Aside0.mk (hF_.blk (show w2.drew.heap[_]? = _ from BKT.out) NTT.out)
      have BKNw3_ := Aside0.mk (hF_.blk (show w2.drew.heap[_]? = _ from BKN.out) NN.out)
      have HGw3_ := Aside0.mk (HG.out.heap (hF_.block gx HG.out.lt NX.out))
      clear hM_ hF_
      refine hK.out _ _ ⟨(blk_cell BKWw3_.out 0).trans rfl, (blk_cell BKPw3_.out 0).trans rfl, (blk_cell BKVw3_.out 0).trans rfl, (blk_cell BKTw3_.out 0).trans rfl, (blk_cell BKTw3_.out 1).trans rfl, (blk_cell BKTw3_.out 2).trans rfl⟩ (fun hHeld => ?_)
      clear hK K
      refine norm_ (a' := ?_) ?_ ?_
      rotate_left
      · show Act.put _ (some 16) _ = _
        simp only [Act.put, List.setIfInBounds_toArray, List.set_cons_zero, List.set_cons_succ, i64_w, i32_w]
        rfl
      refine pure_ (i := 7) (N := some 17) (v := ?_) (a' := ?_) #[true, true, true, true, true, true, true, true, false, false, false, false, false, false, false, false, false, false] rfl rfl (by kernel_rfl) (fun _ _ _ h => h) (Or.inl ⟨by rfl, ?_⟩) ?_ ?_
      rotate_left
      · intro w'
        go_simp
        with_reducible rfl
      rotate_left
      · simp only [Act.put, List.setIfInBounds_toArray, List.set_cons_zero, List.set_cons_succ, i64_w, i32_w]
        rfl
      refine pure_ (i := 8) (N := some 18) (v := ?_) (a' := ?_) #[true, true, true, true, true, true, true, true, true, false, false, false, false, false, false, false, false, false] rfl rfl (by kernel_rfl) (fun _ _ _ h => h) (Or.inl ⟨by rfl, ?_⟩) ?_ ?_
      rotate_left
      · intro w'
        go_simp
        with_reducible rfl
      rotate_left
      · simp only [Act.put, List.setIfInBounds_toArray, List.set_cons_zero, List.set_cons_succ, i64_w, i32_w]
        rfl
      refine pure_ (i := 9) (N := some 19) (v := ?_) (a' := ?_) #[true, true, true, true, true, true, true, true, true, true, false, false, false, false, false, false, false, false] rfl rfl (by kernel_rfl) (fun _ _ _ h => h) (Or.inl ⟨by rfl, ?_⟩) ?_ ?_
      rotate_left
      · intro w'
        go_simp
        with_reducible rfl
      rotate_left
      · simp only [Act.put, List.setIfInBounds_toArray, List.set_cons_zero, List.set_cons_succ, i64_w, i32_w]
        rfl
      refine pure_ (i := 10) (N := some 20) (v := undef) (a' := ?_) #[true, true, true, true, true, true, true, true, true, true, true, false, false, false, false, false, false, false] rfl rfl (by kernel_rfl) (fun _ _ _ h => h) (Or.inr ⟨by rfl, rfl⟩) ?_ ?_
      rotate_left
      · simp only [Act.put, List.setIfInBounds_toArray, List.set_cons_zero, List.set_cons_succ, i64_w, i32_w]
        rfl
      refine pure_ (i := 11) (N := some 21) (v := undef) (a' := ?_) #[true, true, true, true, true, true, true, true, true, true, true, true, false, false, false, false, false, false] rfl rfl (by kernel_rfl) (fun _ _ _ h => h) (Or.inr ⟨by rfl, rfl⟩) ?_ ?_
      rotate_left
      · simp only [Act.put, List.setIfInBounds_toArray, List.set_cons_zero, List.set_cons_succ, i64_w, i32_w]
        rfl
      refine pure_ (i := 12) (N := some 22) (v := undef) (a' := ?_) #[true, true, true, true, true, true, true, true, true, true, true, true, true, false, false, false, false, false] rfl rfl (by kernel_rfl) (fun _ _ _ h => h) (Or.inr ⟨by rfl, rfl⟩) ?_ ?_
      rotate_left
      · simp only [Act.put, List.setIfInBounds_toArray, List.set_cons_zero, List.set_cons_succ, i64_w, i32_w]
        rfl
      refine pure_ (i := 13) (N := some 23) (v := undef) (a' := ?_) #[true, true, true, true, true, true, true, true, true, true, true, true, true, true, false, false, false, false] rfl rfl (by kernel_rfl) (fun _ _ _ h => h) (Or.inr ⟨by rfl, rfl⟩) ?_ ?_
      rotate_left
      · simp only [Act.put, List.setIfInBounds_toArray, List.set_cons_zero, List.set_cons_succ, i64_w, i32_w]
        rfl
      refine pure_ (i := 14) (N := some 24) (v := undef) (a' := ?_) #[true, true, true, true, true, true, true, true, true, true, true, true, true, true, true, false, false, false] rfl rfl (by kernel_rfl) (fun _ _ _ h => h) (Or.inr ⟨by rfl, rfl⟩) ?_ ?_
      rotate_left
      · simp only [Act.put, List.setIfInBounds_toArray, List.set_cons_zero, List.set_cons_succ, i64_w, i32_w]
        rfl
      refine pure_ (i := 15) (N := some 25) (v := undef) (a' := ?_) #[true, true, true, true, true, true, true, true, true, true, true, true, true, true, true, true, false, false] rfl rfl (by kernel_rfl) (fun _ _ _ h => h) (Or.inr ⟨by rfl, rfl⟩) ?_ ?_
      rotate_left
      · simp only [Act.put, List.setIfInBounds_toArray, List.set_cons_zero, List.set_cons_succ, i64_w, i32_w]
        rfl
      refine pure_ (i := 16) (N := some 26) (v := undef) (a' := ?_) #[true, true, true, true, true, true, true, true, true, true, true, true, true, true, true, true, true, false] rfl rfl (by kernel_rfl) (fun _ _ _ h => h) (Or.inr ⟨by rfl, rfl⟩) ?_ ?_
      rotate_left
      · simp only [Act.put, List.setIfInBounds_toArray, List.set_cons_zero, List.set_cons_succ, i64_w, i32_w]
        rfl
      refine pure_ (i := 17) (N := some 27) (v := ?_) (a' := ?_) #[true, true, true, true, true, true, true, true, true, true, true, true, true, true, true, true, true, true] rfl rfl (by kernel_rfl) (fun _ _ _ h => h) (Or.inl ⟨by rfl, ?_⟩) ?_ ?_
      rotate_left
      · intro w'
        go_simp
        with_reducible rfl
      rotate_left
      · simp only [Act.put, List.setIfInBounds_toArray, List.set_cons_zero, List.set_cons_succ, i64_w, i32_w]
        rfl
      refine done_ (by kernel_rfl) ?_

      go_wp2
      first | go_end0 | ((try simp only [Exit.inBlock, Exit.then]); refine bodyPost_ret (results_none rfl _ _ _) rfl ?_)
      have e : stepN l fin want (wi, ks) ⟨xw, xc, ⟨d, tl, ts⟩⟩ = (wi, ks) := if_pos (.inr (.inl c2))
      rw [e]
      exact ⟨rfl, HMw3_.out, BKWw3_.out, HGw3_.out, HFw3_.out⟩
    · have c2b : decide (lf l fin ⟨d, tl, ts⟩ < 0) = false := decide_eq_false c2
      refine start_ (n := 18) (S := fun w' => w'.cell? ⟨cW, 0, none⟩ = some (.int .i64 wi) ∧ w'.cell? ⟨cP, 0, none⟩ = some (.pointer (some ⟨gp, 0, none⟩)) ∧ w'.cell? ⟨cV, 0, none⟩ = some (.int .i64 want) ∧ w'.cell? ⟨gt, 0, none⟩ = some (.int .i64 d) ∧ w'.cell? ⟨gt, 1, none⟩ = some (.int .i64 tl) ∧ w'.cell? ⟨gt, 2, none⟩ = some (.int .i64 ts)) (ds := []) #[false, false, false, false, false, false, false, false, false, false, false, false, false, false, false, false, false, false] (by kernel_rfl) rfl rfl ⟨hcW, hcP, hcV, hd0, hd1, hd2⟩ (fun hHeld => ?_)
      refine pure_ (i := 0) (N := some 10) (v := ?_) (a' := ?_) #[true, false, false, false, false, false, false, false, false, false, false, false, false, false, false, false, false, false] rfl rfl (by kernel_rfl) (fun _ _ _ h => h) (Or.inl ⟨by rfl, ?_⟩) ?_ ?_
      rotate_left
      · intro w'
        go_simp
        with_reducible rfl
      rotate_left
      · simp only [Act.put, List.setIfInBounds_toArray, List.set_cons_zero, List.set_cons_succ, i64_w, i32_w]
        rfl
      refine take_ (i := 1) (N := some 11) (v := ?_) (a' := ?_) #[true, true, false, false, false, false, false, false, false, false, false, false, false, false, false, false, false, false] rfl rfl (by kernel_rfl) (fun _ _ _ h => h) (Or.inl ⟨by rfl, ?_⟩) hHeld ?_ ?_
      rotate_left
      · rintro w' ⟨s0, s1, s2, s3, s4, s5⟩
        go_simp
        with_reducible rfl
      rotate_left
      · simp only [Act.put, List.setIfInBounds_toArray, List.set_cons_zero, List.set_cons_succ, i64_w, i32_w]
        rfl
      refine pure_ (i := 2) (N := some 12) (v := ?_) (a' := ?_) #[true, true, true, false, false, false, false, false, false, false, false, false, false, false, false, false, false, false] rfl rfl (by kernel_rfl) (fun _ _ _ h => h) (Or.inl ⟨by rfl, ?_⟩) ?_ ?_
      rotate_left
      · intro w'
        go_simp
        with_reducible rfl
      rotate_left
      · simp only [Act.put, List.setIfInBounds_toArray, List.set_cons_zero, List.set_cons_succ, i64_w, i32_w]
        rfl
      refine pure_ (i := 3) (N := some 13) (v := ?_) (a' := ?_) #[true, true, true, true, false, false, false, false, false, false, false, false, false, false, false, false, false, false] rfl rfl (by kernel_rfl) (fun _ _ _ h => h) (Or.inl ⟨by rfl, ?_⟩) ?_ ?_
      rotate_left
      · intro w'
        go_simp
        with_reducible rfl
      rotate_left
      · simp only [Act.put, List.setIfInBounds_toArray, List.set_cons_zero, List.set_cons_succ, i64_w, i32_w]
        rfl
      refine take_ (i := 4) (N := some 14) (v := ?_) (a' := ?_) #[true, true, true, true, true, false, false, false, false, false, false, false, false, false, false, false, false, false] rfl rfl (by kernel_rfl) (fun _ _ _ h => h) (Or.inl ⟨by rfl, ?_⟩) hHeld ?_ ?_
      rotate_left
      · rintro w' ⟨s0, s1, s2, s3, s4, s5⟩
        go_simp
        with_reducible rfl
      rotate_left
      · simp only [Act.put, List.setIfInBounds_toArray, List.set_cons_zero, List.set_cons_succ, i64_w, i32_w]
        rfl
      refine take_ (i := 5) (N := some 15) (v := ?_) (a' := ?_) #[true, true, true, true, true, true, false, false, false, false, false, false, false, false, false, false, false, false] rfl rfl (by kernel_rfl) (fun _ _ _ h => h) (Or.inl ⟨by rfl, ?_⟩) hHeld ?_ ?_
      rotate_left
      · rintro w' ⟨s0, s1, s2, s3, s4, s5⟩
        go_simp
        with_reducible rfl
      rotate_left
      · simp only [Act.put, List.setIfInBounds_toArray, List.set_cons_zero, List.set_cons_succ, i64_w, i32_w]
        rfl
      refine one_ (i := 6) (N := some 16) #[true, true, true, true, true, true, true, false, false, false, false, false, false, false, false, false, false, false] rfl rfl (by kernel_rfl) (by decide) (fun K hK => ?_)
      refine goes_ Try.func123 (by kernel_rfl) rfl #[.pointer (some ⟨gp, 0, none⟩), .agg #[.int .i64 d, .int .i64 tl, .int .i64 ts]] (by rfl) rfl rfl (by simp only [List.map_toArray, List.map_cons, List.map_nil]; rfl) ?_
      refine (left_ w0 gp gb gm A c l fin hn HROW.out 10 ⟨d, tl, ts⟩ _ HTC.out HT.out (PW.below (w' := w2.drew) HW.out (by repeat first | exact Below.refl _ _ | refine pw_below_drewN ?_ _ | refine Below.drew ?_)) (HM.out.below (by repeat first | exact Below.refl _ _ | refine pw_below_drewN ?_ _ | refine Below.drew ?_))).mono ?_
      rintro e w3_ ⟨rfl, hM_, hF_⟩
      refine ⟨_, rfl, ?_⟩
      have HFw3_ := Aside0.mk (Fr.then_ (HFR.out.trans (Fr.of_below (by repeat first | exact Below.refl _ _ | refine pw_below_drewN ?_ _ | refine Below.drew ?_))) hF_ (fun i hi => .inl (.inl hi)))
      have HMw3_ := Aside0.mk hM_
      have HWw3_ := Aside0.mk (PW.fr (PW.below (w' := w2.drew) HW.out (by repeat first | exact Below.refl _ _ | refine pw_below_drewN ?_ _ | refine Below.drew ?_)) hF_ (fun k e => e ▸ HW.out.ge) HW.out.np HW.out.nb)
      have BKWw3_ := Aside0.mk (hF_.blk (show w2.drew.heap[_]? = _ from BKW.out) NW.out)
      have BKPw3_ := Aside0.mk (hF_.blk (show w2.drew.heap[_]? = _ from BKP.out) NP.out)
      have BKVw3_ := Aside0.mk (hF_.blk (show w2.drew.heap[_]? = _ from BKV.out) NV.out)
      have BKTw3_ := Aside0.mk (hF_.blk (show w2.drew.heap[_]? = _ from BKT.out) NTT.out)
      have BKNw3_ := Aside0.mk (hF_.blk (show w2.drew.heap[_]? = _ from BKN.out) NN.out)
      have HGw3_ := Aside0.mk (HG.out.heap (hF_.block gx HG.out.lt NX.out))
      clear hM_ hF_
      refine hK.out _ _ ⟨(blk_cell BKWw3_.out 0).trans rfl, (blk_cell BKPw3_.out 0).trans rfl, (blk_cell BKVw3_.out 0).trans rfl, (blk_cell BKTw3_.out 0).trans rfl, (blk_cell BKTw3_.out 1).trans rfl, (blk_cell BKTw3_.out 2).trans rfl⟩ (fun hHeld => ?_)
      clear hK K
      refine norm_ (a' := ?_) ?_ ?_
      rotate_left
      · show Act.put _ (some 16) _ = _
        simp only [Act.put, List.setIfInBounds_toArray, List.set_cons_zero, List.set_cons_succ, i64_w, i32_w]
        rfl
      refine pure_ (i := 7) (N := some 17) (v := ?_) (a' := ?_) #[true, true, true, true, true, true, true, true, false, false, false, false, false, false, false, false, false, false] rfl rfl (by kernel_rfl) (fun _ _ _ h => h) (Or.inl ⟨by rfl, ?_⟩) ?_ ?_
      rotate_left
      · intro w'
        go_simp
        with_reducible rfl
      rotate_left
      · simp only [Act.put, List.setIfInBounds_toArray, List.set_cons_zero, List.set_cons_succ, i64_w, i32_w]
        rfl
      refine pure_ (i := 8) (N := some 18) (v := ?_) (a' := ?_) #[true, true, true, true, true, true, true, true, true, false, false, false, false, false, false, false, false, false] rfl rfl (by kernel_rfl) (fun _ _ _ h => h) (Or.inl ⟨by rfl, ?_⟩) ?_ ?_
      rotate_left
      · intro w'
        go_simp
        with_reducible rfl
      rotate_left
      · simp only [Act.put, List.setIfInBounds_toArray, List.set_cons_zero, List.set_cons_succ, i64_w, i32_w]
        rfl
      refine pure_ (i := 9) (N := some 19) (v := ?_) (a' := ?_) #[true, true, true, true, true, true, true, true, true, true, false, false, false, false, false, false, false, false] rfl rfl (by kernel_rfl) (fun _ _ _ h => h) (Or.inl ⟨by rfl, ?_⟩) ?_ ?_
      rotate_left
      · intro w'
        go_simp
        with_reducible rfl
      rotate_left
      · simp only [Act.put, List.setIfInBounds_toArray, List.set_cons_zero, List.set_cons_succ, i64_w, i32_w]
        rfl
      refine pure_ (i := 13) (N := some 23) (v := ?_) (a' := ?_) #[true, true, true, true, true, true, true, true, true, true, false, false, false, true, false, false, false, false] rfl rfl (by kernel_rfl) (fun _ _ _ h => h) (Or.inl ⟨by rfl, ?_⟩) ?_ ?_
      rotate_left
      · intro w'
        go_simp
        with_reducible rfl
      rotate_left
      · simp only [Act.put, List.setIfInBounds_toArray, List.set_cons_zero, List.set_cons_succ, i64_w, i32_w]
        rfl
      refine take_ (i := 10) (N := some 20) (v := ?_) (a' := ?_) #[true, true, true, true, true, true, true, true, true, true, true, false, false, true, false, false, false, false] rfl rfl (by kernel_rfl) (fun _ _ _ h => h) (Or.inl ⟨by rfl, ?_⟩) hHeld ?_ ?_
      rotate_left
      · rintro w' ⟨s0, s1, s2, s3, s4, s5⟩
        go_simp
        with_reducible rfl
      rotate_left
      · simp only [Act.put, List.setIfInBounds_toArray, List.set_cons_zero, List.set_cons_succ, i64_w, i32_w]
        rfl
      refine take_ (i := 11) (N := some 21) (v := ?_) (a' := ?_) #[true, true, true, true, true, true, true, true, true, true, true, true, false, true, false, false, false, false] rfl rfl (by kernel_rfl) (fun _ _ _ h => h) (Or.inl ⟨by rfl, ?_⟩) hHeld ?_ ?_
      rotate_left
      · rintro w' ⟨s0, s1, s2, s3, s4, s5⟩
        go_simp
        with_reducible rfl
      rotate_left
      · simp only [Act.put, List.setIfInBounds_toArray, List.set_cons_zero, List.set_cons_succ, i64_w, i32_w]
        rfl
      refine take_ (i := 15) (N := some 25) (v := ?_) (a' := ?_) #[true, true, true, true, true, true, true, true, true, true, true, true, false, true, false, true, false, false] rfl rfl (by kernel_rfl) (fun _ _ _ h => h) (Or.inl ⟨by rfl, ?_⟩) hHeld ?_ ?_
      rotate_left
      · rintro w' ⟨s0, s1, s2, s3, s4, s5⟩
        go_simp
        with_reducible rfl
      rotate_left
      · simp only [Act.put, List.setIfInBounds_toArray, List.set_cons_zero, List.set_cons_succ, i64_w, i32_w]
        rfl
      refine one_ (i := 12) (N := some 22) #[true, true, true, true, true, true, true, true, true, true, true, true, true, true, false, true, false, false] rfl rfl (by kernel_rfl) (by decide) (fun K hK => ?_)
      refine goes_ Try.func123 (by kernel_rfl) rfl #[.pointer (some ⟨gp, 0, none⟩), .agg #[.int .i64 d, .int .i64 tl, .int .i64 ts]] (by rfl) rfl rfl (by simp only [List.map_toArray, List.map_cons, List.map_nil]; rfl) ?_
      refine (left_ w0 gp gb gm A c l fin hn HROW.out 10 ⟨d, tl, ts⟩ _ HTC.out HT.out (HWw3_.out) (HMw3_.out)).mono ?_
      rintro e w4_ ⟨rfl, hM_, hF_⟩
      refine ⟨_, rfl, ?_⟩
      have HFw4_ := Aside0.mk (HFw3_.out.then_ hF_ (fun i hi => .inl (.inl hi)))
      have HMw4_ := Aside0.mk hM_
      have HWw4_ := Aside0.mk (PW.fr (HWw3_.out) hF_ (fun k e => e ▸ HW.out.ge) HW.out.np HW.out.nb)
      have BKWw4_ := Aside0.mk (hF_.blk (show w3_.heap[_]? = _ from BKWw3_.out) NW.out)
      have BKPw4_ := Aside0.mk (hF_.blk (show w3_.heap[_]? = _ from BKPw3_.out) NP.out)
      have BKVw4_ := Aside0.mk (hF_.blk (show w3_.heap[_]? = _ from BKVw3_.out) NV.out)
      have BKTw4_ := Aside0.mk (hF_.blk (show w3_.heap[_]? = _ from BKTw3_.out) NTT.out)
      have BKNw4_ := Aside0.mk (hF_.blk (show w3_.heap[_]? = _ from BKNw3_.out) NN.out)
      have HGw4_ := Aside0.mk (HGw3_.out.heap (hF_.block gx HGw3_.out.lt NX.out))
      clear hM_ hF_
      refine hK.out _ _ ⟨(blk_cell BKWw4_.out 0).trans rfl, (blk_cell BKPw4_.out 0).trans rfl, (blk_cell BKVw4_.out 0).trans rfl, (blk_cell BKTw4_.out 0).trans rfl, (blk_cell BKTw4_.out 1).trans rfl, (blk_cell BKTw4_.out 2).trans rfl⟩ (fun hHeld => ?_)
      clear hK K
      refine norm_ (a' := ?_) ?_ ?_
      rotate_left
      · show Act.put _ (some 22) _ = _
        simp only [Act.put, List.setIfInBounds_toArray, List.set_cons_zero, List.set_cons_succ, i64_w, i32_w]
        rfl
      refine pure_ (i := 14) (N := some 24) (v := ?_) (a' := ?_) #[true, true, true, true, true, true, true, true, true, true, true, true, true, true, true, true, false, false] rfl rfl (by kernel_rfl) (fun _ _ _ h => h) (Or.inl ⟨by rfl, ?_⟩) ?_ ?_
      rotate_left
      · intro w'
        go_simp
        with_reducible rfl
      rotate_left
      · simp only [Act.put, List.setIfInBounds_toArray, List.set_cons_zero, List.set_cons_succ, i64_w, i32_w]
        rfl
      refine pure_ (i := 16) (N := some 26) (v := ?_) (a' := ?_) #[true, true, true, true, true, true, true, true, true, true, true, true, true, true, true, true, true, false] rfl rfl (by kernel_rfl) (fun _ _ _ h => h) (Or.inl ⟨by rfl, ?_⟩) ?_ ?_
      rotate_left
      · intro w'
        go_simp
        with_reducible rfl
      rotate_left
      · simp only [Act.put, List.setIfInBounds_toArray, List.set_cons_zero, List.set_cons_succ, i64_w, i32_w]
        rfl
      refine pure_ (i := 17) (N := some 27) (v := ?_) (a' := ?_) #[true, true, true, true, true, true, true, true, true, true, true, true, true, true, true, true, true, true] rfl rfl (by kernel_rfl) (fun _ _ _ h => h) (Or.inl ⟨by rfl, ?_⟩) ?_ ?_
      rotate_left
      · intro w'
        go_simp
        with_reducible rfl
      rotate_left
      · simp only [Act.put, List.setIfInBounds_toArray, List.set_cons_zero, List.set_cons_succ, i64_w, i32_w]
        rfl
      refine done_ (by kernel_rfl) ?_

      have hcN := (blk_cell BKNw4_.out 0).trans rfl
      have hfW := blk_frozen BKWw4_.out 0
      have NT4 := Aside0.mk (blk_ne BKTw4_.out BKWw4_.out (by decide))
      clear BKWw3_ BKPw3_ BKVw3_ BKTw3_ BKNw3_ HGw3_ HWw3_ HMw3_ HFw3_ BKW BKP BKV BKT BKN HG HM HFR hcW hcP hcV hd0 hd1 hd2
      have hcW := (blk_cell BKWw4_.out 0).trans rfl
      go_wp2_with (first
        | ((with_reducible refine gate_store (t := 3) (p := 3) rfl ?_); refine store_event (t := 3) (p := 3) (v := ?vo) (w1 := w4_.setCell ⟨cW, 0, none⟩ (.int .i64 xw)) ?hg ?ho ?hn ?hr ?_; (case ho => rfl); (case hg => rfl); (case hn => rfl); (case hr => first | (go_simp; done) | (go_simp; rfl)); intro w5 hw; clear hcN hfW hcW;
           have hFs : Fr (· = cW) w4_ w5 := (by rw [hw]; exact Fr.set_ (F := (· = cW)) (Fr.refl _ _) (Eq.refl cW) _); have BKWw5_ := Aside0.mk (show w5.heap[cW]? = some (.cells #[.int .i64 xw] 3 (0, 0)) by rw [hw]; exact blk_put BKWw4_.out 0 _ rfl);
           have BKPw5_ := Aside0.mk (hFs.blk BKPw4_.out (fun e => NWx.out.2.2.2.1 e.symm)); have BKNw5_ := Aside0.mk (hFs.blk BKNw4_.out (fun e => NWx.out.2.2.2.2 e.symm)); have BKTw5_ := Aside0.mk (hFs.blk BKTw4_.out NT4.out);
           have HWw5_ := Aside0.mk (HWw4_.out.fr hFs (fun k e => by rw [e]; exact MW.out) (fun e => NWx.out.1 e.symm) (fun e => NWx.out.2.1 e.symm)); have HMw5_ := Aside0.mk (HMw4_.out.fr hFs (fun e => NW.out e.symm)); have HGw5_ := Aside0.mk (HGw4_.out.heap (hFs.block gx HGw4_.out.lt NWx.out.2.2.1)); have HFw5_ := Aside0.mk (HFw4_.out.then_ hFs (fun i hi => .inl (.inr (.inl hi)))); clear hFs hw; have hcN := (blk_cell BKNw5_.out 0).trans rfl)
        | (refine wp_tclear _ rfl _ rfl gx ks.length (kf l fin ks) rfl HGw5_.out ?_; intro w6 hG6 hgr; clear hcN;
           have hFs : Fr (· = gx) w5 w6 := Fr.of_grown hgr (fun k e => (Option.some.inj e).symm);
           have BKWw6_ := Aside0.mk (hFs.blk BKWw5_.out (HGw5_.out.ne_cells BKWw5_.out)); have BKPw6_ := Aside0.mk (hFs.blk BKPw5_.out (HGw5_.out.ne_cells BKPw5_.out)); have BKNw6_ := Aside0.mk (hFs.blk BKNw5_.out (HGw5_.out.ne_cells BKNw5_.out)); have BKTw6_ := Aside0.mk (hFs.blk BKTw5_.out (HGw5_.out.ne_cells BKTw5_.out));
           have HWw6_ := Aside0.mk (HWw5_.out.fr hFs (fun k e => by rw [e]; exact MX.out) (HGw5_.out.ne_cells HWw5_.out.p) (HGw5_.out.ne_cells HWw5_.out.b)); have HMw6_ := Aside0.mk (HMw5_.out.fr hFs (fun e => NX.out e.symm)); have HGw6_ := Aside0.mk (show TM w6 gx ([] : List T3).length (kf l fin []) by rw [← kf_nil]; exact hG6); have HFw6_ := Aside0.mk (HFw5_.out.then_ hFs (fun i hi => .inl (.inr (.inr hi)))); clear hFs hgr hG6))
      · have hne : (wrap64 (lf l fin ⟨d, tl, ts⟩ + xc) != want) = true := by assumption
        first | go_end0 | ((try simp only [Exit.inBlock, Exit.then]); refine bodyPost_ret (results_none rfl _ _ _) rfl ?_)
        have e : stepN l fin want (wi, ks) ⟨xw, xc, ⟨d, tl, ts⟩⟩ = (wi, ks) := if_pos (.inr (.inr (by simpa using hne)))
        rw [e]
        exact ⟨rfl, HMw4_.out, BKWw4_.out, HGw4_.out, HFw4_.out⟩
      · have c4 : (xw : Int) < wi := by assumption
        have hne : (wrap64 (lf l fin ⟨d, tl, ts⟩ + xc) != want) = false := by assumption
        have hns : ¬ skipN l fin want (wi, ks) ⟨xw, xc, ⟨d, tl, ts⟩⟩ := by
          rintro (h | h | h)
          · exact absurd h (by simpa using c1)
          · exact absurd h (by simpa using c2)
          · exact h (by simpa using hne)
        have e : stepN l fin want (wi, ks) ⟨xw, xc, ⟨d, tl, ts⟩⟩ = ((xw : Int), addK [] ⟨d, tl, ts⟩) := (if_neg hns).trans (by unfold baseK; rw [if_pos c4])
        have hcN := (blk_cell BKNw6_.out 0).trans rfl
        have hcP := (blk_cell BKPw6_.out 0).trans rfl
        have hd0 := (blk_cell BKTw6_.out 0).trans rfl
        have hd1 := (blk_cell BKTw6_.out 1).trans rfl
        have hd2 := (blk_cell BKTw6_.out 2).trans rfl
        refine start_ (n := 6) (S := fun w' => w'.cell? ⟨cP, 0, none⟩ = some (.pointer (some ⟨gp, 0, none⟩)) ∧ w'.cell? ⟨cN, 0, none⟩ = some (.map (some gx)) ∧ w'.cell? ⟨gt, 0, none⟩ = some (.int .i64 d) ∧ w'.cell? ⟨gt, 1, none⟩ = some (.int .i64 tl) ∧ w'.cell? ⟨gt, 2, none⟩ = some (.int .i64 ts)) (ds := [5]) #[false, false, false, false, false, false] (by kernel_rfl) rfl rfl ⟨hcP, hcN, hd0, hd1, hd2⟩ (fun hHeld => ?_)
        refine take_ (i := 0) (N := some 33) (v := ?_) (a' := ?_) #[true, false, false, false, false, false] rfl rfl (by kernel_rfl) (fun _ _ _ h => h) (Or.inl ⟨by rfl, ?_⟩) hHeld ?_ ?_
        rotate_left
        · rintro w' ⟨s0, s1, s2, s3, s4⟩
          go_simp
          with_reducible rfl
        rotate_left
        · simp only [Act.put, List.setIfInBounds_toArray, List.set_cons_zero, List.set_cons_succ, i64_w, i32_w]
          rfl
        refine take_ (i := 1) (N := some 34) (v := ?_) (a' := ?_) #[true, true, false, false, false, false] rfl rfl (by kernel_rfl) (fun _ _ _ h => h) (Or.inl ⟨by rfl, ?_⟩) hHeld ?_ ?_
        rotate_left
        · rintro w' ⟨s0, s1, s2, s3, s4⟩
          go_simp
          with_reducible rfl
        rotate_left
        · simp only [Act.put, List.setIfInBounds_toArray, List.set_cons_zero, List.set_cons_succ, i64_w, i32_w]
          rfl
        refine take_ (i := 2) (N := some 35) (v := ?_) (a' := ?_) #[true, true, true, false, false, false] rfl rfl (by kernel_rfl) (fun _ _ _ h => h) (Or.inl ⟨by rfl, ?_⟩) hHeld ?_ ?_
        rotate_left
        · rintro w' ⟨s0, s1, s2, s3, s4⟩
          go_simp
          with_reducible rfl
        rotate_left
        · simp only [Act.put, List.setIfInBounds_toArray, List.set_cons_zero, List.set_cons_succ, i64_w, i32_w]
          rfl
        refine take_ (i := 3) (N := some 36) (v := ?_) (a' := ?_) #[true, true, true, true, false, false] rfl rfl (by kernel_rfl) (fun _ _ _ h => h) (Or.inl ⟨by rfl, ?_⟩) hHeld ?_ ?_
        rotate_left
        · rintro w' ⟨s0, s1, s2, s3, s4⟩
          go_simp
          with_reducible rfl
        rotate_left
        · simp only [Act.put, List.setIfInBounds_toArray, List.set_cons_zero, List.set_cons_succ, i64_w, i32_w]
          rfl
        refine one_ (i := 4) (N := some 37) #[true, true, true, true, true, false] rfl rfl (by kernel_rfl) (by decide) (fun K hK => ?_)
        refine goes_ Try.func123 (by kernel_rfl) rfl #[.pointer (some ⟨gp, 0, none⟩), .agg #[.int .i64 d, .int .i64 tl, .int .i64 ts]] (by rfl) rfl rfl (by simp only [List.map_toArray, List.map_cons, List.map_nil]; rfl) ?_
        refine (left_ w0 gp gb gm A c l fin hn HROW.out 10 ⟨d, tl, ts⟩ _ HTC.out HT.out (PW.below (w' := w6.drew) HWw6_.out (by repeat first | exact Below.refl _ _ | refine pw_below_drewN ?_ _ | refine Below.drew ?_)) (HMw6_.out.below (by repeat first | exact Below.refl _ _ | refine pw_below_drewN ?_ _ | refine Below.drew ?_))).mono ?_
        rintro e w7 ⟨rfl, hM_, hF_⟩
        refine ⟨_, rfl, ?_⟩
        have BKW7 := Aside0.mk (hF_.blk (show w6.drew.heap[_]? = _ from BKWw6_.out) NW.out)
        have BKP7 := Aside0.mk (hF_.blk (show w6.drew.heap[_]? = _ from BKPw6_.out) NP.out)
        have BKN7 := Aside0.mk (hF_.blk (show w6.drew.heap[_]? = _ from BKNw6_.out) NN.out)
        have BKT7 := Aside0.mk (hF_.blk (show w6.drew.heap[_]? = _ from BKTw6_.out) NTT.out)
        have HG7 := Aside0.mk (TM.heap (w := w6.drew) HGw6_.out (hF_.block gx HGw6_.out.lt NX.out))
        have HF7 := Aside0.mk ((HFw6_.out.trans (Fr.of_below (w1 := w6.drew) (by repeat first | exact Below.refl _ _ | refine pw_below_drewN ?_ _ | refine Below.drew ?_))).then_ hF_ (fun i hi => .inl (.inl hi)))
        have HM7 := Aside0.mk hM_
        clear hM_ hF_
        refine hK.out _ _ ⟨(blk_cell BKP7.out 0).trans rfl, (blk_cell BKN7.out 0).trans rfl, (blk_cell BKT7.out 0).trans rfl, (blk_cell BKT7.out 1).trans rfl, (blk_cell BKT7.out 2).trans rfl⟩ (fun hHeld => ?_)
        clear hK K
        refine norm_ (a' := ?_) ?_ ?_
        rotate_left
        · show Act.put _ (some 37) _ = _
          simp only [Act.put, List.setIfInBounds_toArray, List.set_cons_zero, List.set_cons_succ, i64_w, i32_w]
          rfl
        refine last_ (i := 5) (N := none) #[true, true, true, true, true, true] rfl rfl (by kernel_rfl) (by decide) (fun K hK => ?_)
        obtain ⟨w8, hrun8, hG8, hT8⟩ := HG7.out.put_any (Nat.lt_of_le_of_lt (tk_few hn (KOk.nil l.length).nd (KOk.nil l.length).tk) (by decide)) (HT.out.ok hn) (lf_wf l fin ⟨d, tl, ts⟩) (addK [] ⟨d, tl, ts⟩).length (addK_len l fin [] ⟨d, tl, ts⟩)
        rw [kf_add] at hG8
        refine tput_ (b := gx) (tv := .agg #[.int .i64 d, .int .i64 tl, .int .i64 ts]) (yv := .int .i64 (lf l fin ⟨d, tl, ts⟩)) (by rfl) rfl rfl rfl rfl rfl hrun8 ?_
        refine hK.out _ _ ?_
        clear hK K
        refine done_ (by kernel_rfl) ?_

        have hFs : Fr (· = gx) w7 w8 := Fr.of_grown hT8.grown (fun k e => (Option.some.inj e).symm)
        first | go_end0 | ((try simp only [Exit.inBlock, Exit.then]); refine bodyPost_ret (results_none rfl _ _ _) rfl ?_)
        rw [e]
        exact ⟨rfl, HM7.out.fr hFs (fun e => NX.out e.symm), hFs.blk BKW7.out (HG7.out.ne_cells BKW7.out), hG8, HF7.out.then_ hFs (fun i hi => .inl (.inr (.inr hi)))⟩
      · have c4 : ¬ (xw : Int) < wi := by
          have h : wi ≤ (xw : Int) := by assumption
          omega
        have hne : (wrap64 (lf l fin ⟨d, tl, ts⟩ + xc) != want) = false := by assumption
        have hns : ¬ skipN l fin want (wi, ks) ⟨xw, xc, ⟨d, tl, ts⟩⟩ := by
          rintro (h | h | h)
          · exact absurd h (by simpa using c1)
          · exact absurd h (by simpa using c2)
          · exact h (by simpa using hne)
        have ew : (xw : Int) = wi := by
          have h : ¬ wi < (xw : Int) := by simpa using c1
          omega
        have e : stepN l fin want (wi, ks) ⟨xw, xc, ⟨d, tl, ts⟩⟩ = (wi, addK ks ⟨d, tl, ts⟩) := (if_neg hns).trans (by unfold baseK; rw [if_neg c4, ew])
        clear ew
        have hcP := (blk_cell BKPw4_.out 0).trans rfl
        have hd0 := (blk_cell BKTw4_.out 0).trans rfl
        have hd1 := (blk_cell BKTw4_.out 1).trans rfl
        have hd2 := (blk_cell BKTw4_.out 2).trans rfl
        refine start_ (n := 6) (S := fun w' => w'.cell? ⟨cP, 0, none⟩ = some (.pointer (some ⟨gp, 0, none⟩)) ∧ w'.cell? ⟨cN, 0, none⟩ = some (.map (some gx)) ∧ w'.cell? ⟨gt, 0, none⟩ = some (.int .i64 d) ∧ w'.cell? ⟨gt, 1, none⟩ = some (.int .i64 tl) ∧ w'.cell? ⟨gt, 2, none⟩ = some (.int .i64 ts)) (ds := [5]) #[false, false, false, false, false, false] (by kernel_rfl) rfl rfl ⟨hcP, hcN, hd0, hd1, hd2⟩ (fun hHeld => ?_)
        refine take_ (i := 0) (N := some 33) (v := ?_) (a' := ?_) #[true, false, false, false, false, false] rfl rfl (by kernel_rfl) (fun _ _ _ h => h) (Or.inl ⟨by rfl, ?_⟩) hHeld ?_ ?_
        rotate_left
        · rintro w' ⟨s0, s1, s2, s3, s4⟩
          go_simp
          with_reducible rfl
        rotate_left
        · simp only [Act.put, List.setIfInBounds_toArray, List.set_cons_zero, List.set_cons_succ, i64_w, i32_w]
          rfl
        refine take_ (i := 1) (N := some 34) (v := ?_) (a' := ?_) #[true, true, false, false, false, false] rfl rfl (by kernel_rfl) (fun _ _ _ h => h) (Or.inl ⟨by rfl, ?_⟩) hHeld ?_ ?_
        rotate_left
        · rintro w' ⟨s0, s1, s2, s3, s4⟩
          go_simp
          with_reducible rfl
        rotate_left
        · simp only [Act.put, List.setIfInBounds_toArray, List.set_cons_zero, List.set_cons_succ, i64_w, i32_w]
          rfl
        refine take_ (i := 2) (N := some 35) (v := ?_) (a' := ?_) #[true, true, true, false, false, false] rfl rfl (by kernel_rfl) (fun _ _ _ h => h) (Or.inl ⟨by rfl, ?_⟩) hHeld ?_ ?_
        rotate_left
        · rintro w' ⟨s0, s1, s2, s3, s4⟩
          go_simp
          with_reducible rfl
        rotate_left
        · simp only [Act.put, List.setIfInBounds_toArray, List.set_cons_zero, List.set_cons_succ, i64_w, i32_w]
          rfl
        refine take_ (i := 3) (N := some 36) (v := ?_) (a' := ?_) #[true, true, true, true, false, false] rfl rfl (by kernel_rfl) (fun _ _ _ h => h) (Or.inl ⟨by rfl, ?_⟩) hHeld ?_ ?_
        rotate_left
        · rintro w' ⟨s0, s1, s2, s3, s4⟩
          go_simp
          with_reducible rfl
        rotate_left
        · simp only [Act.put, List.setIfInBounds_toArray, List.set_cons_zero, List.set_cons_succ, i64_w, i32_w]
          rfl
        refine one_ (i := 4) (N := some 37) #[true, true, true, true, true, false] rfl rfl (by kernel_rfl) (by decide) (fun K hK => ?_)
        refine goes_ Try.func123 (by kernel_rfl) rfl #[.pointer (some ⟨gp, 0, none⟩), .agg #[.int .i64 d, .int .i64 tl, .int .i64 ts]] (by rfl) rfl rfl (by simp only [List.map_toArray, List.map_cons, List.map_nil]; rfl) ?_
        refine (left_ w0 gp gb gm A c l fin hn HROW.out 10 ⟨d, tl, ts⟩ _ HTC.out HT.out (PW.below (w' := w4_.drew) HWw4_.out (by repeat first | exact Below.refl _ _ | refine pw_below_drewN ?_ _ | refine Below.drew ?_)) (HMw4_.out.below (by repeat first | exact Below.refl _ _ | refine pw_below_drewN ?_ _ | refine Below.drew ?_))).mono ?_
        rintro e w7 ⟨rfl, hM_, hF_⟩
        refine ⟨_, rfl, ?_⟩
        have BKW7 := Aside0.mk (hF_.blk (show w4_.drew.heap[_]? = _ from BKWw4_.out) NW.out)
        have BKP7 := Aside0.mk (hF_.blk (show w4_.drew.heap[_]? = _ from BKPw4_.out) NP.out)
        have BKN7 := Aside0.mk (hF_.blk (show w4_.drew.heap[_]? = _ from BKNw4_.out) NN.out)
        have BKT7 := Aside0.mk (hF_.blk (show w4_.drew.heap[_]? = _ from BKTw4_.out) NTT.out)
        have HG7 := Aside0.mk (TM.heap (w := w4_.drew) HGw4_.out (hF_.block gx HGw4_.out.lt NX.out))
        have HF7 := Aside0.mk ((HFw4_.out.trans (Fr.of_below (w1 := w4_.drew) (by repeat first | exact Below.refl _ _ | refine pw_below_drewN ?_ _ | refine Below.drew ?_))).then_ hF_ (fun i hi => .inl (.inl hi)))
        have HM7 := Aside0.mk hM_
        clear hM_ hF_
        refine hK.out _ _ ⟨(blk_cell BKP7.out 0).trans rfl, (blk_cell BKN7.out 0).trans rfl, (blk_cell BKT7.out 0).trans rfl, (blk_cell BKT7.out 1).trans rfl, (blk_cell BKT7.out 2).trans rfl⟩ (fun hHeld => ?_)
        clear hK K
        refine norm_ (a' := ?_) ?_ ?_
        rotate_left
        · show Act.put _ (some 37) _ = _
          simp only [Act.put, List.setIfInBounds_toArray, List.set_cons_zero, List.set_cons_succ, i64_w, i32_w]
          rfl
        refine last_ (i := 5) (N := none) #[true, true, true, true, true, true] rfl rfl (by kernel_rfl) (by decide) (fun K hK => ?_)
        obtain ⟨w8, hrun8, hG8, hT8⟩ := HG7.out.put_any (Nat.lt_of_le_of_lt (tk_few hn HKS.out.nd HKS.out.tk) (by decide)) (HT.out.ok hn) (lf_wf l fin ⟨d, tl, ts⟩) (addK ks ⟨d, tl, ts⟩).length (addK_len l fin ks ⟨d, tl, ts⟩)
        rw [kf_add] at hG8
        refine tput_ (b := gx) (tv := .agg #[.int .i64 d, .int .i64 tl, .int .i64 ts]) (yv := .int .i64 (lf l fin ⟨d, tl, ts⟩)) (by rfl) rfl rfl rfl rfl rfl hrun8 ?_
        refine hK.out _ _ ?_
        clear hK K
        refine done_ (by kernel_rfl) ?_

        have hFs : Fr (· = gx) w7 w8 := Fr.of_grown hT8.grown (fun k e => (Option.some.inj e).symm)
        first | go_end0 | ((try simp only [Exit.inBlock, Exit.then]); refine bodyPost_ret (results_none rfl _ _ _) rfl ?_)
        rw [e]
        exact ⟨rfl, HM7.out.fr hFs (fun e => NX.out e.symm), hFs.blk BKW7.out (HG7.out.ne_cells BKW7.out), hG8, HF7.out.then_ hFs (fun i hi => .inl (.inr (.inr hi)))⟩
end Go.Proofs.Ytaapbnhggfmlpaa.P
end
section
set_option linter.unusedVariables false
namespace Go.Proofs.Ytaapbnhggfmlpaa.A
open Go.RowKit Go.Proofs.Ytaapbnhggfmlpaa.P Go.Proofs.YtaapbnhggfmlpaaW.PrintWords Go.Proofs.Ytaapbnhggfmlpaa.M
def Gw (l : List (List Int)) (fin want : Int) (x : Itm) : Prop := 0 ≤ lf l fin x.t ∧ wrap64 (lf l fin x.t + x.c) = want
structure NX (n : Nat) (G : Itm → Prop) (s : Int × List T3) : Prop where
  le : s.1 ≤ n
  min : ∀ x, G x → s.1 ≤ x.w
  at_ : s.1 < n → ∃ x, G x ∧ (x.w : Int) = s.1
  mem : ∀ u, u ∈ s.2 ↔ ∃ x, G x ∧ (x.w : Int) = s.1 ∧ x.t = u
  lt : ∀ x, G x → x.w < n
theorem mem_addK (ks : List T3) (t u : T3) : u ∈ addK ks t ↔ u ∈ ks ∨ u = t := by
  unfold addK
  by_cases h : t ∈ ks
  · rw [if_pos h]
    constructor
    · exact .inl
    · rintro (h' | rfl)
      · exact h'
      · exact h
  · rw [if_neg h, List.mem_cons]
    exact Or.comm
theorem NX.start (n : Nat) : NX n (fun _ => False) ((n : Int), []) :=
  ⟨Int.le_refl _, fun _ h => h.elim, fun h => absurd h (Int.lt_irrefl _), fun u => ⟨fun h => absurd h (by simp), fun ⟨_, h, _⟩ => h.elim⟩, fun _ h => h.elim⟩
theorem NX.congr {n : Nat} {G G' : Itm → Prop} {s : Int × List T3} (h : NX n G s) (e : ∀ x, G x ↔ G' x) : NX n G' s :=
  ⟨h.le, fun x hx => h.min x ((e x).2 hx), fun hl => let ⟨x, a, b⟩ := h.at_ hl; ⟨x, (e x).1 a, b⟩, fun u => (h.mem u).trans ⟨fun ⟨x, a, b⟩ => ⟨x, (e x).1 a, b⟩, fun ⟨x, a, b⟩ => ⟨x, (e x).2 a, b⟩⟩, fun x hx => h.lt x ((e x).2 hx)⟩
theorem NX.step {l : List (List Int)} {fin want : Int} {n : Nat} {G : Itm → Prop} {s : Int × List T3} (h : NX n G s) {x : Itm} (hx : x.w < n) : NX n (fun y => G y ∨ (y = x ∧ Gw l fin want y)) (stepN l fin want s x) := by
  by_cases hs : skipN l fin want s x
  · rw [show stepN l fin want s x = s from if_pos hs]
    by_cases hg : Gw l fin want x
    · have hlt : s.1 < x.w := by
        rcases hs with h1 | h1 | h1
        · exact h1
        · exact absurd hg.1 (by omega)
        · exact absurd hg.2 h1
      refine ⟨h.le, ?_, ?_, ?_, ?_⟩
      · rintro y (hy | ⟨rfl, _⟩)
        · exact h.min y hy
        · omega
      · intro hl
        obtain ⟨y, hy, e⟩ := h.at_ hl
        exact ⟨y, .inl hy, e⟩
      · intro u
        rw [h.mem u]
        constructor
        · rintro ⟨y, hy, e⟩
          exact ⟨y, .inl hy, e⟩
        · rintro ⟨y, hy | ⟨rfl, _⟩, e⟩
          · exact ⟨y, hy, e⟩
          · omega
      · rintro y (hy | ⟨rfl, _⟩)
        · exact h.lt y hy
        · exact hx
    · refine h.congr fun y => ⟨.inl, ?_⟩
      rintro (hy | ⟨rfl, hy⟩)
      · exact hy
      · exact absurd hy hg
  · rw [show stepN l fin want s x = _ from if_neg hs]
    have h1 : ¬ s.1 < x.w := fun h => hs (.inl h)
    have h2 : ¬ lf l fin x.t < 0 := fun h => hs (.inr (.inl h))
    have h3 : wrap64 (lf l fin x.t + x.c) = want := Classical.byContradiction fun h => hs (.inr (.inr h))
    have hg : Gw l fin want x := ⟨by omega, h3⟩
    refine ⟨?_, ?_, ?_, ?_, ?_⟩
    · show (x.w : Int) ≤ n
      omega
    · rintro y (hy | ⟨rfl, _⟩)
      · have := h.min y hy
        show (x.w : Int) ≤ y.w
        omega
      · exact Int.le_refl _
    · intro _
      exact ⟨x, .inr ⟨rfl, hg⟩, rfl⟩
    · intro u
      show u ∈ addK (baseK s x) x.t ↔ _
      rw [mem_addK]
      by_cases c : (x.w : Int) < s.1
      · rw [show baseK s x = [] from if_pos c]
        constructor
        · rintro (hu | rfl)
          · cases hu
          · exact ⟨x, .inr ⟨rfl, hg⟩, rfl, rfl⟩
        · rintro ⟨y, hy | ⟨rfl, _⟩, e1, e2⟩
          · have := h.min y hy
            simp only at e1
            omega
          · exact .inr e2.symm
      · rw [show baseK s x = s.2 from if_neg c]
        have e : (x.w : Int) = s.1 := by omega
        rw [h.mem u]
        constructor
        · rintro (⟨y, hy, e1, e2⟩ | rfl)
          · exact ⟨y, .inl hy, by simp only; omega, e2⟩
          · exact ⟨x, .inr ⟨rfl, hg⟩, rfl, rfl⟩
        · rintro ⟨y, hy | ⟨rfl, _⟩, e1, e2⟩
          · exact .inl ⟨y, hy, by simp only at e1; omega, e2⟩
          · exact .inr e2.symm
    · rintro y (hy | ⟨rfl, _⟩)
      · exact h.lt y hy
      · exact hx
theorem NX.fold {l : List (List Int)} {fin want : Int} {n : Nat} (xs : List Itm) : ∀ {G : Itm → Prop} {s : Int × List T3}, NX n G s → (∀ x ∈ xs, x.w < n) → NX n (fun y => G y ∨ (y ∈ xs ∧ Gw l fin want y)) (xs.foldl (stepN l fin want) s) := by
  induction xs with
  | nil => exact fun h _ => h.congr fun y => ⟨.inl, fun h => h.elim id (fun h => by cases h.1)⟩
  | cons x xs ih =>
    intro G s h hx
    rw [List.foldl_cons]
    refine (ih (h.step (hx x (List.mem_cons_self ..))) fun y hy => hx y (List.mem_cons_of_mem _ hy)).congr fun y => ?_
    rw [List.mem_cons]
    constructor
    · rintro ((a | ⟨a, b⟩) | ⟨a, b⟩)
      · exact .inl a
      · exact .inr ⟨.inl a, b⟩
      · exact .inr ⟨.inr a, b⟩
    · rintro (a | ⟨a | a, b⟩)
      · exact .inl (.inl a)
      · exact .inl (.inr ⟨a, b⟩)
      · exact .inr ⟨a, b⟩
theorem NX.unique {n : Nat} {G : Itm → Prop} {s s' : Int × List T3} (h : NX n G s) (h' : NX n G s') : s.1 = s'.1 ∧ ∀ u, u ∈ s.2 ↔ u ∈ s'.2 := by
  have e : s.1 = s'.1 := by
    have h1 : s'.1 ≤ s.1 := by
      by_cases c : s.1 < n
      · obtain ⟨x, hx, e⟩ := h.at_ c
        have := h'.min x hx
        omega
      · have := h'.le
        omega
    have h2 : s.1 ≤ s'.1 := by
      by_cases c : s'.1 < n
      · obtain ⟨x, hx, e⟩ := h'.at_ c
        have := h.min x hx
        omega
      · have := h.le
        omega
    omega
  refine ⟨e, fun u => ?_⟩
  rw [h.mem u, h'.mem u, e]
/-- Good for one of some tasks. -/
def Gd (l : List (List Int)) (fin : Int) (K : T3 → Prop) (x : Itm) : Prop := ∃ t, K t ∧ x ∈ itms l fin t l.length ∧ Gw l fin (lf l fin t) x
def nextF (l : List (List Int)) (fin : Int) (ks : List T3) : Int × List T3 := ks.foldl (fun s t => (itms l fin t l.length).foldl (stepN l fin (lf l fin t)) s) ((l.length : Int), [])
theorem nextF_nx {l : List (List Int)} {fin : Int} (hn : l.length ≤ 9) {ks : List T3} (hk : ∀ t ∈ ks, Tk l.length t) : NX l.length (Gd l fin (· ∈ ks)) (nextF l fin ks) := by
  suffices h : ∀ (us : List T3) (G : Itm → Prop) (s : Int × List T3), (∀ t ∈ us, Tk l.length t) → NX l.length G s → NX l.length (fun x => G x ∨ Gd l fin (· ∈ us) x) (us.foldl (fun s t => (itms l fin t l.length).foldl (stepN l fin (lf l fin t)) s) s) from
    (h ks _ _ hk (NX.start _)).congr fun x => by simp
  intro us
  induction us with
  | nil => exact fun G s _ h => h.congr fun y => ⟨.inl, fun h => h.elim id (fun ⟨t, h, _⟩ => by cases h)⟩
  | cons u us ih =>
    intro G s hk h
    rw [List.foldl_cons]
    refine (ih _ _ (fun t ht => hk t (List.mem_cons_of_mem _ ht)) (h.fold (itms l fin u l.length) fun x hx => (itms_ok hn (hk u (List.mem_cons_self ..)) x hx).2.2.1)).congr fun x => ?_
    constructor
    · rintro ((a | ⟨a, b⟩) | ⟨t, a, b⟩)
      · exact .inl a
      · exact .inr ⟨u, List.mem_cons_self .., a, b⟩
      · exact .inr ⟨t, List.mem_cons_of_mem _ a, b⟩
    · rintro (a | ⟨t, a, b, c⟩)
      · exact .inl (.inl a)
      · rcases List.mem_cons.1 a with rfl | a
        · exact .inl (.inr ⟨b, c⟩)
        · exact .inr ⟨t, a, b, c⟩
theorem Gd.congr {l : List (List Int)} {fin : Int} {K K' : T3 → Prop} (e : ∀ t, K t ↔ K' t) (x : Itm) : Gd l fin K x ↔ Gd l fin K' x :=
  ⟨fun ⟨t, a, b⟩ => ⟨t, (e t).1 a, b⟩, fun ⟨t, a, b⟩ => ⟨t, (e t).2 a, b⟩⟩
theorem nextF_tk {l : List (List Int)} {fin : Int} (hn : l.length ≤ 9) {ks : List T3} (hk : ∀ t ∈ ks, Tk l.length t) : ∀ u ∈ (nextF l fin ks).2, Tk l.length u := by
  intro u hu
  obtain ⟨x, ⟨t, ht, hx, _⟩, _, rfl⟩ := ((nextF_nx hn hk).mem u).1 hu
  exact (itms_ok hn (hk t ht) x hx).1
def ordR (l : List (List Int)) (fin : Int) : Nat → List T3 → List Int → List Int
  | 0, _, out => out
  | k + 1, ks, out => if out.length < l.length then ordR l fin k (nextF l fin ks).2 (out ++ [(nextF l fin ks).1]) else out
/-- The order that is found depends on the set of tasks alone. -/
theorem ordR_set {l : List (List Int)} {fin : Int} (hn : l.length ≤ 9) : ∀ (k : Nat) (ks ks' : List T3) (out : List Int), (∀ t ∈ ks, Tk l.length t) → (∀ t, t ∈ ks ↔ t ∈ ks') → ordR l fin k ks out = ordR l fin k ks' out := by
  intro k
  induction k with
  | zero => exact fun _ _ _ _ _ => rfl
  | succ k ih =>
    intro ks ks' out hk e
    have hk' : ∀ t ∈ ks', Tk l.length t := fun t ht => hk t ((e t).2 ht)
    obtain ⟨e1, e2⟩ := (nextF_nx (fin := fin) hn hk).unique ((nextF_nx (fin := fin) hn hk').congr (Gd.congr fun t => (e t).symm))
    unfold ordR
    rw [e1, ih _ _ _ (nextF_tk hn hk) e2]
def begT (s : Int) (w : Nat) : T3 := ⟨wrap64 (2 ^ w), w, s⟩
def begF (l : List (List Int)) (fin s : Int) (ws : List Nat) : Int × Nat := ws.foldl (fun b w => if 0 ≤ lf l fin (begT s w) ∧ (b.1 < 0 ∨ lf l fin (begT s w) < b.1) then (lf l fin (begT s w), w) else b) (-1, 0)
def orderF (l : List (List Int)) (fin s : Int) (ws : List Nat) : List Int × Int × Bool :=
  if (begF l fin s ws).1 < 0 then ([], 0, false) else (ordR l fin 10 [begT s (begF l fin s ws).2] [((begF l fin s ws).2 : Int)], (begF l fin s ws).1, true)
end Go.Proofs.Ytaapbnhggfmlpaa.A
end
section
set_option linter.unusedVariables false
namespace Go.Proofs.Ytaapbnhggfmlpaa.M
open Go.RowKit
theorem TM.fr {F : Nat → Prop} {w w' : World} {b n : Nat} {f : T3 → Option Int} (h : TM w b n f) (hf : Fr F w w') (hn : ¬ F b) : TM w' b n f := h.heap (hf.block b h.lt hn)
theorem TM.below {w w' : World} {b n : Nat} {f : T3 → Option Int} (h : TM w b n f) (hb : Below w.heap.size w w') : TM w' b n f := h.heap (hb.block b h.lt)
theorem RG.fr {F : Nat → Prop} {w w' : World} {b r n cnt : Nat} {f : T3 → Option Int} {S : T3 → Prop} (h : RG w b r n f S cnt) (hf : Fr F w w') (hb : ¬ F b) (hr : ¬ F r) : RG w' b r n f S cnt :=
  h.heap (hf.block b h.tm.lt hb) (hf.block r h.lt hr)
theorem RG.below {w w' : World} {b r n cnt : Nat} {f : T3 → Option Int} {S : T3 → Prop} (h : RG w b r n f S cnt) (hb : Below w.heap.size w w') : RG w' b r n f S cnt :=
  h.heap (hb.block b h.tm.lt) (hb.block r h.lt)
end Go.Proofs.Ytaapbnhggfmlpaa.M
namespace Go.Proofs.Ytaapbnhggfmlpaa.P
open Go.RowKit Go.Proofs.YtaapbnhggfmlpaaW.PrintWords Go.Proofs.YtaapbnhggfmlpaaW.PrintLast Go.Proofs.YtaapbnhggfmlpaaW.PrintMore
open Go.Proofs.Ytaapbnhggfmlpaa.M Go.Proofs.Ytaapbnhggfmlpaa.A
structure OS (w0 w : World) (gp gb gm g3 : Nat) (A : Option Addr) (c : Nat) (l : List (List Int)) (fin : Int) (wr : World) : Prop where
  pw : PW w0 gp gb gm A c l fin wr
  mem : Mem l fin gm wr
  fr : Fr (· = gm) w wr
  b3 : wr.heap[g3]? = some (.cells #[.pointer (some ⟨gp, 0, none⟩)] 147 (0, 0))
  lw : w0.heap.size ≤ w.heap.size
  lp : gp < w.heap.size
  lb : gb < w.heap.size
  lm : gm < w.heap.size
  l3 : w.heap.size ≤ g3
section
variable {w0 w w1 w2 : World} {gp gb gm g3 : Nat} {A : Option Addr} {c : Nat} {l : List (List Int)} {fin : Int} {F : Nat → Prop}
theorem OS.step (h : OS w0 w gp gb gm g3 A c l fin w1) (hf : Fr F w1 w2) (hF : ∀ k, F k → k = gm ∨ (w.heap.size ≤ k ∧ k ≠ g3)) (hM : Mem l fin gm w2) : OS w0 w gp gb gm g3 A c l fin w2 :=
  ⟨h.pw.fr hf (fun k hk => (hF k hk).elim (fun e => e ▸ h.pw.ge) (fun e => Nat.le_trans h.lw e.1)) (fun hk => (hF _ hk).elim h.pw.np (fun e => by have := h.lp; omega)) (fun hk => (hF _ hk).elim h.pw.nb (fun e => by have := h.lb; omega)),
   hM, Fr.then_ h.fr hf (fun k hk => (hF k hk).elim .inl (fun e => .inr e.1)), hf.blk h.b3 (fun hk => (hF _ hk).elim (fun e => by have := h.lm; have := h.l3; omega) (fun e => e.2 rfl)), h.lw, h.lp, h.lb, h.lm, h.l3⟩
theorem OS.new (h : OS w0 w gp gb gm g3 A c l fin w1) (hf : Fr F w1 w2) (hF : ∀ k, F k → w.heap.size ≤ k ∧ k ≠ g3) : OS w0 w gp gb gm g3 A c l fin w2 :=
  h.step hf (fun k hk => .inr (hF k hk)) (h.mem.fr hf (fun hk => by have := hF _ hk; have := h.lm; omega))
theorem OS.below (h : OS w0 w gp gb gm g3 A c l fin w1) (hb : Below w1.heap.size w1 w2) : OS w0 w gp gb gm g3 A c l fin w2 :=
  h.new (F := fun _ => False) (Fr.of_below hb) (fun _ hk => hk.elim)
theorem R_fr {F : Nat → Prop} {w w' : World} {base : Nat} {v : Value} {xs : List Int} (h : Kd.R (Kd.int .i64) 2 w base (fun _ => True) v xs) (hf : Fr F w w') (hF : ∀ k cs, F k → w.heap[k]? ≠ some (.cells cs 2 (0, 0))) : Kd.R (Kd.int .i64) 2 w' base (fun _ => True) v xs := by
  refine Kd.R_mono (Kd.R_step (Kd.R_bound h) fun k hk hlt => hf.block k hlt fun hFk => ?_) (fun _ _ => trivial)
  obtain ⟨_, _, _, q, hq, cs, hcs⟩ := hk
  have e : q = 2 := by simpa [Kd.int, Kd.scalar] using hq
  subst e
  exact hF k cs hFk hcs
theorem Mem.ne_cells {w : World} {gm : Nat} (h : Mem l fin gm w) {g : Nat} {t : TypeId} {cs : Array Value} {z : Nat × Nat} (hg : w.heap[g]? = some (.cells cs t z)) : g ≠ gm := by
  obtain ⟨ks, tb, _, _, _, h⟩ := h
  exact h.ne_cells hg
theorem kf_one (l : List (List Int)) (fin : Int) (t : T3) {b : Int} (h : b = lf l fin t) : (fun u => if u = t then some b else none) = kf l fin [t] := by
  funext u
  unfold kf
  by_cases e : u = t
  · subst e
    simp [h]
  · simp [e]
end
end Go.Proofs.Ytaapbnhggfmlpaa.P
namespace Go.Proofs.Ytaapbnhggfmlpaa.M
open Go.Maps Go.RowKit
theorem RG.not_cells {w : World} {b r n cnt : Nat} {f : T3 → Option Int} {S : T3 → Prop} (h : RG w b r n f S cnt) {cs : Array Value} {t : TypeId} {z : Nat × Nat} : w.heap[r]? ≠ some (.cells cs t z) := by
  obtain ⟨D, left, ⟨es, clock, since, seen, c0, k1, F, k2, k3, k4, k5⟩, h1⟩ := h
  rw [k4]
  intro e
  cases e
end Go.Proofs.Ytaapbnhggfmlpaa.M
end
section
set_option linter.unusedVariables false
namespace Go.Proofs.Ytaapbnhggfmlpaa.A
open Go.RowKit Go.Proofs.Ytaapbnhggfmlpaa.P Go.Proofs.YtaapbnhggfmlpaaW.PrintWords Go.Proofs.Ytaapbnhggfmlpaa.M
theorem KOk.fold {l : List (List Int)} {fin want : Int} (xs : List Itm) : ∀ {s : Int × List T3}, KOk l.length s.2 → (∀ x ∈ xs, Tk l.length x.t) → KOk l.length (xs.foldl (stepN l fin want) s).2 := by
  induction xs with
  | nil => exact fun h _ => h
  | cons x xs ih =>
    intro s h hx
    rw [List.foldl_cons]
    exact ih (h.step (hx x (List.mem_cons_self ..))) fun y hy => hx y (List.mem_cons_of_mem _ hy)
theorem Gd.take {l : List (List Int)} {fin : Int} {ks : List T3} {S : T3 → Prop} {t : T3} (ht : t ∈ ks) (x : Itm) :
    (Gd l fin (fun u => u ∈ ks ∧ ¬ S u) x ∨ (x ∈ itms l fin t l.length ∧ Gw l fin (lf l fin t) x)) ↔ Gd l fin (fun u => u ∈ ks ∧ ¬ (S u ∧ u ≠ t)) x := by
  constructor
  · rintro (⟨u, ⟨h1, h2⟩, h3⟩ | h)
    · exact ⟨u, ⟨h1, fun h => h2 h.1⟩, h3⟩
    · exact ⟨t, ⟨ht, fun h => h.2 rfl⟩, h⟩
  · rintro ⟨u, ⟨h1, h2⟩, h3⟩
    by_cases e : u = t
    · subst e
      exact .inr h3
    · exact .inl ⟨u, ⟨h1, fun h => h2 ⟨h, e⟩⟩, h3⟩
theorem ordR_next {l : List (List Int)} {fin : Int} (hn : l.length ≤ 9) {ks sk : List T3} {S : T3 → Prop} {si : Int} (hk : KOk l.length ks) (hS : ∀ t, t.ok → ¬ S t)
    (h : NX l.length (Gd l fin (fun t => t ∈ ks ∧ ¬ S t)) (si, sk)) (kk : Nat) (out : List Int) : ordR l fin kk sk (out ++ [si]) = ordR l fin kk (nextF l fin ks).2 (out ++ [(nextF l fin ks).1]) := by
  have h2 : NX l.length (Gd l fin (· ∈ ks)) (si, sk) := h.congr (Gd.congr fun t => ⟨fun h => h.1, fun h => ⟨h, hS t ((hk.tk t h).ok hn)⟩⟩)
  obtain ⟨e1, e2⟩ := h2.unique (nextF_nx (fin := fin) hn hk.tk)
  rw [show si = (nextF l fin ks).1 from e1]
  refine ordR_set hn _ _ _ _ (fun t ht => nextF_tk hn hk.tk t ((e2 t).1 ht)) e2
end Go.Proofs.Ytaapbnhggfmlpaa.A
end
section
set_option linter.unusedVariables false
set_option linter.unusedSimpArgs false
namespace Go.Proofs.Ytaapbnhggfmlpaa.P
open Go.RowKit Go.Proofs.YtaapbnhggfmlpaaW.PrintWords Go.Proofs.YtaapbnhggfmlpaaW.PrintLast Go.Proofs.YtaapbnhggfmlpaaW.PrintMore
open Go.Proofs.Ytaapbnhggfmlpaa.M Go.Proofs.Ytaapbnhggfmlpaa.A
theorem add_blk (a : Addr) (n : Nat) : (a.add n).block = a.block := by unfold Addr.add; split <;> rfl
theorem fr_cell {F : Nat → Prop} {w w' : World} (h : Fr F w w') {a : Addr} (ha : ¬ F a.block) {v : Value} (hc : w.cell? a = some v) : w'.cell? a = some v := by
  have hb : a.block < w.heap.size := by
    rcases Nat.lt_or_ge a.block w.heap.size with hl | hl
    · exact hl
    · simp [World.cell?, Array.getElem?_eq_none hl] at hc
  rw [← hc]
  simp only [World.cell?, h.block _ hb ha]
theorem ordR_done {l : List (List Int)} {fin : Int} {out : List Int} (h : ¬ out.length < l.length) (k : Nat) (ks : List T3) : ordR l fin k ks out = out := by
  cases k with
  | zero => rfl
  | succ k => unfold ordR; rw [if_neg h]
theorem ordR_go {l : List (List Int)} {fin : Int} {out : List Int} (h : out.length < l.length) (k : Nat) (ks : List T3) : ordR l fin (k + 1) ks out = ordR l fin k (nextF l fin ks).2 (out ++ [(nextF l fin ks).1]) := by
  conv => lhs; unfold ordR
  rw [if_pos h]
theorem begF_zero (l : List (List Int)) (fin s : Int) (ws : List Nat) : begF l fin s (ws.take 0) = (-1, 0) := by
  simp [begF]
theorem begF_succ (l : List (List Int)) (fin s : Int) (ws : List Nat) (i : Nat) (hi : i < ws.length) : begF l fin s (ws.take (i + 1)) = if 0 ≤ lf l fin (begT s ws[i]) ∧ ((begF l fin s (ws.take i)).1 < 0 ∨ lf l fin (begT s ws[i]) < (begF l fin s (ws.take i)).1) then (lf l fin (begT s ws[i]), ws[i]) else begF l fin s (ws.take i) := by
  have e : ws.take (i + 1) = ws.take i ++ [ws[i]] := by rw [List.take_succ_eq_append_getElem hi]
  unfold begF
  rw [e, List.foldl_append, List.foldl_cons, List.foldl_nil]
theorem begF_at (l : List (List Int)) (fin s : Int) (ws : List Nat) : (begF l fin s ws).1 < 0 ∨ ∃ x ∈ ws, begF l fin s ws = (lf l fin (begT s x), x) := by
  have h : ∀ i, i ≤ ws.length → (begF l fin s (ws.take i)).1 < 0 ∨ ∃ x ∈ ws, begF l fin s (ws.take i) = (lf l fin (begT s x), x) := by
    intro i
    induction i with
    | zero =>
      intro _
      rw [begF_zero]
      exact .inl (by decide)
    | succ i ih =>
      intro hi
      rw [begF_succ l fin s ws i hi]
      split
      · exact .inr ⟨ws[i], List.getElem_mem _, rfl⟩
      · exact ih (by omega)
  have := h ws.length (Nat.le_refl _)
  rwa [List.take_length] at this
set_option maxHeartbeats 4000000 in
set_option maxRecDepth 100000 in
theorem order_ (w0 : World) (gp gb gm : Nat) (A : Option Addr) (c : Nat) (l : List (List Int)) (fin s : Int) (Ab : Addr) (cb : Nat) (ws : List Nat) (w : World) (hn : l.length ≤ 9) (h0 : 0 < l.length) (hrow : ∀ j : Nat, j < l.length → (rd_Ls2 l j).length = l.length)
    (hs : 0 ≤ s ∧ s ≤ 9) (hws : ∀ (i : Nat) (h : i < ws.length), ws[i] < l.length) (hlen : ws.length ≤ 9) (hcb : ws.length ≤ cb) (hW : PW w0 gp gb gm A c l fin w) (hM : Mem l fin gm w) (nAb : Ab.block ≠ gm)
    (hb : ∀ (i : Nat) (h : i < ws.length), w.cell? (Ab.add i) = some (.int .i64 (ws[i] : Int))) (r1 : List Int) (r2 : Int) (r3 : Bool) (hr : orderF l fin s ws = (r1, r2, r3)) :
    Calls Try.prog 89 #[.pointer (some ⟨gp, 0, none⟩), .slice (some Ab) ws.length cb, .int .i64 s] w fun e w' => ∃ v0_ : Value, e = .returned (.tuple #[v0_, .int .i64 r2, .bool r3]) ∧ Kd.R (Kd.int .i64) 2 w' w.heap.size (fun _ => True) v0_ r1 ∧ Fr (· = gm) w w' := by
  have HROW := Aside0.mk hrow
  have HWS := Aside0.mk hws
  have HW := Aside0.mk hW
  have HW0 := Aside0.mk hW.bl.size
  have HLT := Aside0.mk (And.intro (blk_lt hW.p) (And.intro (blk_lt hW.b) hM.lt))
  have HM := Aside0.mk hM
  have NAB := Aside0.mk nAb
  have HBG := Aside0.mk hb
  have HRR := Aside0.mk hr
  clear hrow hws hW hM nAb hb hr
  obtain ⟨hs0, hs9⟩ := hs
  have hu150 := Try.underlying150
  have hu147 := Try.underlying147
  have hu113 := Try.underlying113
  have hu111 := Try.underlying111
  have hu101 := Try.underlying101
  have hu44 := Try.underlying44
  go_enter Try.func89, Try.ntmps89
  go_wp2_with (first
      | ((with_reducible refine gate_dst (N := 3) rfl ?_); refine box_event ?hg (N := 3) ?hd (cs := #[.pointer (some ⟨gp, 0, none⟩)]) (t := 147) ?hr ?_; (case hd => rfl); (case hg => rfl); (case hr => first | (go_simp; done) | (go_simp; rfl)); intro g3 hg w2 hbox hb; have L3 := Aside0.mk (show w.heap.size ≤ g3 by omega); have N3 := Aside0.mk (show g3 ≠ gm from fun e => by have := HM.out.lt; omega); have HFR := Aside0.mk (Fr.of_below (F := (· = gm)) hb); have B3 := Aside0.mk hbox; have n3_ := Aside0.mk (HW.out.below hb); have n4_ := Aside0.mk (HM.out.below hb); clear HW HM hg hbox hb; have HW := n3_; have HM := n4_; clear n3_ n4_))
  go_loopw [9, 10, 22] (fun v9 v10 v22 wr => ∃ (i : Nat) (b1 : Int) (b2 : Nat), v22 = .int .i64 i ∧ i ≤ ws.length ∧ v9 = .int .i64 b1 ∧ v10 = .int .i64 b2 ∧ Aside0 (begF l fin s (ws.take i) = (b1, b2)) ∧ Aside0 (PW w0 gp gb gm A c l fin wr) ∧ Aside0 (Mem l fin gm wr) ∧ Aside0 (Fr (· = gm) w wr) ∧ Aside0 (wr.heap[g3]? = some (.cells #[.pointer (some ⟨gp, 0, none⟩)] 147 (0, 0)))) (fun _ _ v _ => ws.length - (intOf v).toNat)
  case atStart => exact ⟨0, -1, 0, rfl, by omega, rfl, rfl, ⟨begF_zero l fin s ws⟩, HW, HM, HFR, B3⟩
  case round =>
    clear HW HM HFR B3
    obtain ⟨i, b1, b2, rfl, hi, rfl, rfl, HBF, HW, HM, HFR, B3⟩ := hrel
    by_cases ci : i < ws.length
    · have hx := fr_cell HFR.out (a := Ab.add i) (by rw [add_blk]; exact NAB.out) (HBG.out i ci)
      have hwi := HWS.out i ci
      have hSucc := begF_succ l fin s ws i ci
      rw [HBF.out] at hSucc
      obtain ⟨x, hxe⟩ : ∃ x, x = ws[i] := ⟨_, rfl⟩
      rw [← hxe] at hSucc hx hwi
      clear hxe
      have HSU := Aside0.mk hSucc
      clear hSucc HBF
      have hp9 := pow9 (show x ≤ 9 by omega)
      have hTx : Aside0 (Tk l.length (begT s x)) := ⟨by
        refine ⟨2 ^ x, x, s.toNat, ?_, Nat.pow_lt_pow_right (by decide) hwi, hwi, by omega⟩
        unfold begT
        rw [wpow x (by omega), Int.toNat_of_nonneg hs0]⟩
      have hg3 := (blk_cell B3.out 0).trans rfl
      go_wp2
      refine start_ (n := 8) (S := fun w' => w'.cell? ⟨g3, 0, none⟩ = some (.pointer (some ⟨gp, 0, none⟩))) (ds := []) #[false, false, false, false, false, false, false, false] (by kernel_rfl) rfl rfl (hg3) (fun hHeld => ?_)
      refine pure_ (i := 1) (N := some 27) (v := ?_) (a' := ?_) #[false, true, false, false, false, false, false, false] rfl rfl (by kernel_rfl) (fun _ _ _ h => h) (Or.inl ⟨by rfl, ?_⟩) ?_ ?_
      rotate_left
      · intro w'
        go_simp
        with_reducible rfl
      rotate_left
      · simp only [Act.put, List.setIfInBounds_toArray, List.set_cons_zero, List.set_cons_succ, i64_w, i32_w]
        rfl
      refine pure_ (i := 2) (N := some 28) (v := ?_) (a' := ?_) #[false, true, true, false, false, false, false, false] rfl rfl (by kernel_rfl) (fun _ _ _ h => h) (Or.inl ⟨by rfl, ?_⟩) ?_ ?_
      rotate_left
      · intro w'
        go_simp
        with_reducible rfl
      rotate_left
      · simp only [Act.put, List.setIfInBounds_toArray, List.set_cons_zero, List.set_cons_succ, i64_w, i32_w]
        rfl
      refine pure_ (i := 3) (N := some 29) (v := ?_) (a' := ?_) #[false, true, true, true, false, false, false, false] rfl rfl (by kernel_rfl) (fun _ _ _ h => h) (Or.inl ⟨by rfl, ?_⟩) ?_ ?_
      rotate_left
      · intro w'
        go_simp
        with_reducible rfl
      rotate_left
      · simp only [Act.put, List.setIfInBounds_toArray, List.set_cons_zero, List.set_cons_succ, i64_w, i32_w]
        rfl
      refine pure_ (i := 4) (N := some 30) (v := ?_) (a' := ?_) #[false, true, true, true, true, false, false, false] rfl rfl (by kernel_rfl) (fun _ _ _ h => h) (Or.inl ⟨by rfl, ?_⟩) ?_ ?_
      rotate_left
      · intro w'
        go_simp
        with_reducible rfl
      rotate_left
      · simp only [Act.put, List.setIfInBounds_toArray, List.set_cons_zero, List.set_cons_succ, i64_w, i32_w]
        rfl
      refine pure_ (i := 5) (N := some 31) (v := ?_) (a' := ?_) #[false, true, true, true, true, true, false, false] rfl rfl (by kernel_rfl) (fun _ _ _ h => h) (Or.inl ⟨by rfl, ?_⟩) ?_ ?_
      rotate_left
      · intro w'
        go_simp
        with_reducible rfl
      rotate_left
      · simp only [Act.put, List.setIfInBounds_toArray, List.set_cons_zero, List.set_cons_succ, i64_w, i32_w]
        rfl
      refine take_ (i := 0) (N := some 26) (v := ?_) (a' := ?_) #[true, true, true, true, true, true, false, false] rfl rfl (by kernel_rfl) (fun _ _ _ h => h) (Or.inl ⟨by rfl, ?_⟩) hHeld ?_ ?_
      rotate_left
      · intro w' s0
        go_simp
        with_reducible rfl
      rotate_left
      · simp only [Act.put, List.setIfInBounds_toArray, List.set_cons_zero, List.set_cons_succ, i64_w, i32_w]
        rfl
      refine one_ (i := 6) (N := some 32) #[true, true, true, true, true, true, true, false] rfl rfl (by kernel_rfl) (by decide) (fun K hK => ?_)
      refine goes_ Try.func123 (by kernel_rfl) rfl #[.pointer (some ⟨gp, 0, none⟩), (begT s x).v] (by rfl) rfl rfl (by simp only [List.map_toArray, List.map_cons, List.map_nil]; rfl) ?_
      refine (left_ w0 gp gb gm A c l fin hn HROW.out 10 (begT s x) _ (by have := ucnt_le l.length (begT s x).d.toNat; unfold tcnt; omega) hTx.out (PW.below (w' := wr.drew) HW.out (by repeat first | exact Below.refl _ _ | refine pw_below_drewN ?_ _ | refine Below.drew ?_)) (HM.out.below (by repeat first | exact Below.refl _ _ | refine pw_below_drewN ?_ _ | refine Below.drew ?_))).mono ?_
      rintro e w7 ⟨rfl, hM_, hF_⟩
      refine ⟨_, rfl, ?_⟩
      have HF7 := Aside0.mk ((HFR.out.trans (Fr.of_below (w1 := wr.drew) (by repeat first | exact Below.refl _ _ | refine pw_below_drewN ?_ _ | refine Below.drew ?_))).trans hF_)
      have HM7 := Aside0.mk hM_
      have HW7 := Aside0.mk (PW.fr (PW.below (w' := wr.drew) HW.out (by repeat first | exact Below.refl _ _ | refine pw_below_drewN ?_ _ | refine Below.drew ?_)) hF_ (fun k e => e ▸ HW.out.ge) HW.out.np HW.out.nb)
      have B37 := Aside0.mk (hF_.blk (show wr.drew.heap[_]? = _ from B3.out) N3.out)
      clear hM_ hF_
      refine hK.out _ _ ((blk_cell B37.out 0).trans rfl) (fun hHeld => ?_)
      clear hK K
      refine norm_ (a' := ?_) ?_ ?_
      rotate_left
      · show Act.put _ (some 32) _ = _
        simp only [Act.put, List.setIfInBounds_toArray, List.set_cons_zero, List.set_cons_succ, i64_w, i32_w]
        rfl
      refine pure_ (i := 7) (N := some 13) (v := ?_) (a' := ?_) #[true, true, true, true, true, true, true, true] rfl rfl (by kernel_rfl) (fun _ _ _ h => h) (Or.inl ⟨by rfl, ?_⟩) ?_ ?_
      rotate_left
      · intro w'
        go_simp
        with_reducible rfl
      rotate_left
      · simp only [Act.put, List.setIfInBounds_toArray, List.set_cons_zero, List.set_cons_succ, i64_w, i32_w]
        rfl
      refine done_ (by kernel_rfl) ?_

      clear hg3 hx HW HM HFR B3
      have hSU := HSU.out
      clear HSU
      generalize lf l fin (begT s x) = y at hSU ⊢
      have HSU := Aside0.mk hSU
      clear hSU hp9 hTx HWS HBG
      have fin1 : ∀ (h : 0 ≤ y ∧ (b1 < 0 ∨ y < b1)), begF l fin s (ws.take (i + 1)) = (y, x) := fun h => HSU.out.trans (if_pos h)
      have fin2 : ∀ (h : ¬ (0 ≤ y ∧ (b1 < 0 ∨ y < b1))), begF l fin s (ws.take (i + 1)) = (b1, b2) := fun h => HSU.out.trans (if_neg h)
      have F1 := Aside0.mk fin1
      have F2 := Aside0.mk fin2
      clear fin1 fin2 HSU
      by_cases h1 : 0 ≤ y
      · have h1b : decide (0 ≤ y) = true := decide_eq_true h1
        by_cases h2 : b1 < 0
        · have h2b : decide (b1 < 0) = true := decide_eq_true h2
          have F := Aside0.mk (F1.out ⟨h1, .inl h2⟩)
          clear F1 F2
          go_wp2
          exact ⟨⟨i + 1, y, x, by go_num, by omega, rfl, rfl, F, HW7, HM7, HF7, B37⟩, by simp [intOf]; omega⟩
        · have h2b : decide (b1 < 0) = false := decide_eq_false h2
          by_cases h3 : y < b1
          · have h3b : decide (y < b1) = true := decide_eq_true h3
            have F := Aside0.mk (F1.out ⟨h1, .inr h3⟩)
            clear F1 F2
            go_wp2
            exact ⟨⟨i + 1, y, x, by go_num, by omega, rfl, rfl, F, HW7, HM7, HF7, B37⟩, by simp [intOf]; omega⟩
          · have h3b : decide (y < b1) = false := decide_eq_false h3
            have F := Aside0.mk (F2.out (fun h => h.2.elim h2 h3))
            clear F1 F2
            go_wp2
            exact ⟨⟨i + 1, b1, b2, by go_num, by omega, rfl, rfl, F, HW7, HM7, HF7, B37⟩, by simp [intOf]; omega⟩
      · have h1b : decide (0 ≤ y) = false := decide_eq_false h1
        have F := Aside0.mk (F2.out (fun h => h1 h.1))
        clear F1 F2
        go_wp2
        exact ⟨⟨i + 1, b1, b2, by go_num, by omega, rfl, rfl, F, HW7, HM7, HF7, B37⟩, by simp [intOf]; omega⟩
    · obtain rfl : i = ws.length := by omega
      rw [List.take_length] at HBF
      by_cases hb1 : b1 < 0
      · have hb1b : decide (b1 < 0) = true := decide_eq_true hb1
        have e : (([] : List Int), (0 : Int), false) = (r1, r2, r3) := by
          have h := HRR.out
          unfold orderF at h
          rw [HBF.out, if_pos hb1] at h
          exact h
        cases e
        go_wp2
        go_ret3
        exact ⟨_, rfl, Kd.R_nil _ _ _ _ _, HFR.out⟩
      · have hb1b : decide (b1 < 0) = false := decide_eq_false hb1
        have e : (ordR l fin 10 [begT s b2] [(b2 : Int)], b1, true) = (r1, r2, r3) := by
          have h := HRR.out
          unfold orderF at h
          rw [HBF.out, if_neg hb1] at h
          exact h
        have HRUN := Aside0.mk (congrArg Prod.fst e)
        have e2 : b1 = r2 := congrArg (fun p => p.2.1) e
        have e3 : true = r3 := congrArg (fun p => p.2.2) e
        subst e2 e3
        obtain ⟨hx2, hlf⟩ : b2 < l.length ∧ b1 = lf l fin (begT s b2) := by
          rcases begF_at l fin s ws with h | ⟨x, hx, h⟩
          · rw [HBF.out] at h
            exact absurd h hb1
          · rw [HBF.out] at h
            cases h
            obtain ⟨j, hj, rfl⟩ := List.getElem_of_mem hx
            exact ⟨HWS.out j hj, rfl⟩
        have HLF := Aside0.mk hlf
        clear e hlf HBF HRR HBG
        have hp9 := pow9 (show b2 ≤ 9 by omega)
        have HTB : Aside0 (Tk l.length (begT s b2)) := ⟨by
          refine ⟨2 ^ b2, b2, s.toNat, ?_, Nat.pow_lt_pow_right (by decide) hx2, hx2, by omega⟩
          unfold begT
          rw [wpow b2 (by omega), Int.toNat_of_nonneg hs0]⟩
        clear hp9
        have HWF : Aside0 ((Lit.int .i64 b1).wf = true) := ⟨by rw [HLF.out]; exact lf_wf _ _ _⟩
        have GE3 := Aside0.mk (blk_lt B3.out)
        go_wp2_with (first
          | ((with_reducible refine gate_dst (N := 50) rfl ?_); refine Kd.R_lit (Kd.int .i64) _ 2 ?hg (N := 50) ?hd (xs := ([(b2 : Int)] : List Int)) (inner := [.int .i64 b2]) (ok := fun _ => True) (okp := fun _ => True) ?hr ?hp (fun _ hk => hk) trivial (Below.refl _ _) (Nat.le_refl _) (by simp) ?_; (case hd => rfl); (case hg => rfl); (case hr => first | (go_simp; done) | (go_simp; rfl)); (case hp => exact (Reps.one (show Kd.M (Kd.int .i64) _ _ _ (b2 : Int) [.int .i64 b2] from rfl) (Reps.none _ _))); intro v50 w3 ho hb hg_ hnew_; clear hg_ hnew_; have HO := Aside0.mk (Kd.R_lower ho HFR.out.size); have n1_ := Aside0.mk (blk_below B3.out hb); have n2_ := Aside0.mk (HW.out.below hb); have n3_ := Aside0.mk (HM.out.below hb); have n4_ := Aside0.mk (HFR.out.trans (Fr.of_below (F := (· = gm)) hb)); clear B3 HW HM HFR GE3 ho hb; have B3 := n1_; have HW := n2_; have HM := n3_; have HFR := n4_; clear n1_ n2_ n3_ n4_)
          | (refine wp_tmake _ rfl rfl ?_; intro gs w4 hgs hT hb; have HTM := Aside0.mk hT; have NGS := Aside0.mk (show gs ≠ gm ∧ w.heap.size ≤ gs from ⟨fun e => by have := HM.out.lt; omega, by have := HFR.out.size; omega⟩); have n0_ := Aside0.mk (Kd.R_below HO.out hb); have n1_ := Aside0.mk (blk_below B3.out hb); have n2_ := Aside0.mk (HW.out.below hb); have n3_ := Aside0.mk (HM.out.below hb); have n4_ := Aside0.mk (HFR.out.trans (Fr.of_below (F := (· = gm)) hb)); clear B3 HW HM HFR HO hT hb hgs; have B3 := n1_; have HW := n2_; have HM := n3_; have HFR := n4_; have HO := n0_; clear n0_ n1_ n2_ n3_ n4_)
          | (refine wp_tput _ rfl _ _ _ (.inr rfl) gs 0 (fun _ => none) rfl HTM.out (by decide) (begT s b2) b1 rfl rfl (HTB.out.ok hn) HWF.out ?_; intro w5 hT hgr; have hFs : Fr (· = gs) w4 w5 := Fr.of_grown hgr (fun k e => (Option.some.inj e).symm);
             have n5_ := Aside0.mk (show TM w5 gs [begT s b2].length (kf l fin [begT s b2]) from by rw [← kf_one l fin _ HLF.out]; exact hT);
             have n0_ := Aside0.mk (R_fr HO.out hFs (fun k cs e h => HTM.out.ne_cells h e)); have n1_ := Aside0.mk (hFs.blk B3.out (HTM.out.ne_cells B3.out)); have n2_ := Aside0.mk (HW.out.fr hFs (fun k e => by rw [e]; have := HW.out.bl.size; have := NGS.out.2; have := HW0.out; omega) (HTM.out.ne_cells HW.out.p) (HTM.out.ne_cells HW.out.b)); have n3_ := Aside0.mk (HM.out.fr hFs (fun e => NGS.out.1 e.symm)); have n4_ := Aside0.mk (HFR.out.then_ hFs (fun i e => .inr (by rw [e]; exact NGS.out.2)));
             clear B3 HW HM HFR HO HTM hT hgr hFs; have B3 := n1_; have HW := n2_; have HM := n3_; have HFR := n4_; have HO := n0_; have HTM := n5_; clear n0_ n1_ n2_ n3_ n4_ n5_))
        have HOS := Aside0.mk (OS.mk HW.out HM.out HFR.out B3.out HW0.out HLT.out.1 HLT.out.2.1 HLT.out.2.2 L3.out)
        have HK1 := Aside0.mk (KOk.add (KOk.nil l.length) HTB.out)
        have HL1 : Aside0 (l.length ≤ ([(b2 : Int)] : List Int).length + 10) := ⟨by simp; omega⟩
        clear HW HM HFR B3 NAB HWS HW0
        go_loopg [14, 15] 10 (fun kq v14 v15 w' => ∃ (gs : Nat) (ks : List T3) (out : List Int), v15 = .map (some gs) ∧ Aside0 (Kd.R (Kd.int .i64) 2 w' w.heap.size (fun _ => True) v14 out) ∧ Aside0 (ordR l fin kq ks out = r1) ∧ Aside0 (KOk l.length ks) ∧ Aside0 (TM w' gs ks.length (kf l fin ks)) ∧ Aside0 (w.heap.size ≤ gs) ∧ Aside0 (l.length ≤ out.length + kq) ∧ Aside0 (kq ≤ 10) ∧ Aside0 (OS w0 w gp gb gm g3 A c l fin w'))
        case atStart => exact ⟨gs, _, _, rfl, HO, HRUN, HK1, HTM, ⟨NGS.out.2⟩, HL1, ⟨Nat.le_refl _⟩, HOS⟩
        case round =>
          clear HOS HO HTM HRUN HK1 HL1 NGS
          obtain ⟨wo, rfl⟩ : ∃ wo : World, wo = wr := ⟨_, rfl⟩
          obtain ⟨gs, ks, out, rfl, HO, HRUN, HKS, HTM, HGS, HLE, HK, HOS⟩ := hrel
          have hg3 := (blk_cell HOS.out.b3 0).trans rfl
          have hp0 := (blk_cell HOS.out.pw.p 0).trans rfl
          have hb0 := (blk_cell HOS.out.pw.b 0).trans rfl
          obtain ⟨Ao, co, rfl, hoc, hor⟩ := Kd.R_reads HO.out
          clear hoc hor
          by_cases c1 : out.length < l.length
          · obtain ⟨kk, rfl⟩ : ∃ kk, gk = kk + 1 := ⟨gk - 1, by have := HLE.out; omega⟩
            have c1b : decide (out.length < l.length) = true := decide_eq_true c1
            have HR2 := Aside0.mk ((ordR_go c1 kk ks).symm.trans HRUN.out)
            have HC1 := Aside0.mk c1
            clear HRUN c1
            go_wp2_with (first
              | (refine wp_tmake _ rfl rfl ?_; intro gx w4 hgx hT hb; have HT4 := Aside0.mk hT; have HB4 := Aside0.mk hb; have LXG := Aside0.mk (show wo.heap.size ≤ gx by omega); have LX := Aside0.mk hT.lt; clear hT hb hgx hg3 hp0 hb0)
              | ((with_reducible refine gate_dst (N := 16) rfl ?_); refine box_event ?hg (N := 16) ?hd (cs := #[.int .i64 0]) (t := 3) ?hr ?_; (case hd => rfl); (case hg => rfl); (case hr => first | (go_simp; done) | (go_simp; rfl)); intro cW hg w5 hbox hb; have BW := Aside0.mk hbox; have HB5 := Aside0.mk (HB4.out.trans (hb.mono HB4.out.size)); have HT5 := Aside0.mk (HT4.out.below hb); have NW := Aside0.mk (show wo.heap.size ≤ cW ∧ gx < cW from ⟨by have := HB4.out.size; omega, by have := LX.out; omega⟩); clear HB4 HT4 hb hbox hg; have hcW := (blk_cell BW.out 0).trans rfl; have hfW := blk_frozen BW.out 0)
              | ((with_reducible refine gate_dst (N := 17) rfl ?_); refine box_event ?hg (N := 17) ?hd (cs := #[.map none]) (t := 111) ?hr ?_; (case hd => rfl); (case hg => rfl); (case hr => first | (go_simp; done) | (go_simp; rfl)); intro cN hg w6 hbox hb; have BN := Aside0.mk hbox; have HB6 := Aside0.mk (HB5.out.trans (hb.mono HB5.out.size)); have HT6 := Aside0.mk (HT5.out.below hb); have n1_ := Aside0.mk (blk_below BW.out hb); have NN := Aside0.mk (show wo.heap.size ≤ cN ∧ cW < cN from ⟨by have := HB5.out.size; omega, by have := blk_lt BW.out; omega⟩); clear HB5 HT5 BW hb hbox hg hcW hfW; have BW := n1_; clear n1_; have hcW := (blk_cell BW.out 0).trans rfl; have hfW := blk_frozen BW.out 0; have hcN := (blk_cell BN.out 0).trans rfl; have hfN := blk_frozen BN.out 0)
              | ((with_reducible refine gate_store (t := 3) (p := 16) rfl ?_); refine store_event (t := 3) (p := 16) (v := .tmp 77) (w1 := w6.setCell ⟨cW, 0, none⟩ (.int .i64 l.length)) ?hg ?ho ?hn ?hr ?_; (case ho => rfl); (case hg => rfl); (case hn => rfl); (case hr => first | (go_simp; done) | (go_simp; rfl)); intro w7 hw; clear hcW hfW hcN hfN;
                 have hFs : Fr (· = cW) w6 w7 := (by rw [hw]; exact Fr.set_ (F := (· = cW)) (Fr.refl _ _) (Eq.refl cW) _); have BW7 := Aside0.mk (show w7.heap[cW]? = some (.cells #[.int .i64 l.length] 3 (0, 0)) by rw [hw]; exact blk_put BW.out 0 _ rfl); have BN7 := Aside0.mk (hFs.blk BN.out (fun e => by have := NN.out.2; omega)); have HT7 := Aside0.mk (HT6.out.fr hFs (fun e => by have := NW.out.2; omega)); have HB7 := Aside0.mk (Fr.below HB6.out hFs HB6.out.size (fun k e => by rw [e]; exact NW.out.1)); clear hFs hw BW BN HT6 HB6; have hcN := (blk_cell BN7.out 0).trans rfl; have hfN := blk_frozen BN7.out 0)
              | ((with_reducible refine gate_store (t := 111) (p := 17) rfl ?_); refine store_event (t := 111) (p := 17) (v := .tmp 78) (w1 := w7.setCell ⟨cN, 0, none⟩ (.map (some gx))) ?hg ?ho ?hn ?hr ?_; (case ho => rfl); (case hg => rfl); (case hn => rfl); (case hr => first | (go_simp; done) | (go_simp; rfl)); intro w8 hw; clear hcN hfN;
                 have hFs : Fr (· = cN) w7 w8 := (by rw [hw]; exact Fr.set_ (F := (· = cN)) (Fr.refl _ _) (Eq.refl cN) _); have BN8 := Aside0.mk (show w8.heap[cN]? = some (.cells #[.map (some gx)] 111 (0, 0)) by rw [hw]; exact blk_put BN7.out 0 _ rfl); have BW8 := Aside0.mk (hFs.blk BW7.out (fun e => by have := NN.out.2; omega)); have HT8 := Aside0.mk (show TM w8 gx ([] : List T3).length (kf l fin []) by rw [← kf_nil]; exact HT7.out.fr hFs (fun e => by have := NN.out.2; have := NW.out.2; omega)); have HB8 := Aside0.mk (Fr.below HB7.out hFs HB7.out.size (fun k e => by rw [e]; exact NN.out.1)); clear hFs hw BW7 BN7 HT7 HB7;
                 have n1_ := Aside0.mk (HOS.out.below HB8.out); have n2_ := Aside0.mk (HTM.out.below HB8.out); have n3_ := Aside0.mk (Kd.R_below HO.out HB8.out); have NZ := Aside0.mk (show gs < wo.heap.size ∧ g3 < wo.heap.size from ⟨HTM.out.lt, blk_lt HOS.out.b3⟩); clear HOS HTM HO HB8; have HOS := n1_; have HTM := n2_; have HO := n3_; clear n1_ n2_ n3_)
              | (refine wp_trange _ rfl (.tmp 79) rfl gs ks.length (kf l fin ks) rfl HTM.out ?_; intro gr cnt w9 hgr hRG hb; have HRG := Aside0.mk hRG; have ND := Aside0.mk (show (gp < w.heap.size ∧ gb < w.heap.size ∧ gm < w.heap.size ∧ w0.heap.size ≤ w.heap.size) ∧ w.heap.size ≤ g3 ∧ w.heap.size ≤ gs ∧ g3 < wo.heap.size ∧ gs < wo.heap.size ∧ wo.heap.size ≤ gx ∧ gx < cW ∧ cW < cN ∧ cN < gr from ⟨⟨HOS.out.lp, HOS.out.lb, HOS.out.lm, HOS.out.lw⟩, L3.out, HGS.out, NZ.out.2, NZ.out.1, LXG.out, NW.out.2, NN.out.2, by have := blk_lt BN8.out; omega⟩);
                 have n1_ := Aside0.mk (HOS.out.below hb); have n3_ := Aside0.mk (Kd.R_below HO.out hb); have n4_ := Aside0.mk (blk_below BW8.out hb); have n5_ := Aside0.mk (blk_below BN8.out hb); have n6_ := Aside0.mk (HT8.out.below hb); clear HOS HTM HO BW8 BN8 HT8 hRG hb hgr; have HOS := n1_; have HO := n3_; have BW := n4_; have BN := n5_; have HT := n6_; clear n1_ n3_ n4_ n5_ n6_))
            go_frame
            go_loopw [81] (fun v81 wx => ∃ (S : T3 → Prop) (cnt1 : Nat) (si : Int) (sk : List T3), Aside0 (RG wx gs gr ks.length (kf l fin ks) S cnt1) ∧ Aside0 (NX l.length (Gd l fin (fun t => t ∈ ks ∧ ¬ S t)) (si, sk)) ∧ Aside0 (KOk l.length sk) ∧ Aside0 (wx.heap[cW]? = some (.cells #[.int .i64 si] 3 (0, 0))) ∧ Aside0 (wx.heap[cN]? = some (.cells #[.map (some gx)] 111 (0, 0))) ∧ Aside0 (TM wx gx sk.length (kf l fin sk)) ∧ Aside0 (Kd.R (Kd.int .i64) 2 wx w.heap.size (fun _ => True) (.slice Ao out.length co) out) ∧ Aside0 (OS w0 w gp gb gm g3 A c l fin wx)) (fun _ wx => wx.rangeLeft gs gr)
            case atStart => exact ⟨_, _, _, _, HRG, ⟨(NX.start l.length).congr fun x => ⟨fun h => h.elim, fun ⟨t, ⟨h1, h2⟩, _⟩ => h2 (by simp [kf, h1])⟩⟩, ⟨KOk.nil _⟩, BW, BN, HT, HO, HOS⟩
            case round =>
              clear BW BN HT HO HOS HRG
              obtain ⟨S, cnt1, si, sk, HRG, HNX, HKK, BW, BN, HT, HO, HOS⟩ := hrel
              go_wp2_with (first | (refine wp_tnext _ rfl (.tmp 80) rfl gs gr ks.length cnt1 (kf l fin ks) S rfl HRG.out ?_ ?_))
              · intro hDone
                have hO := ordR_next (fin := fin) hn HKS.out hDone HNX.out kk out
                have HR3 := Aside0.mk (hO.trans HR2.out)
                clear hO HR2 hDone HNX HRG
                have hcW := (blk_cell BW.out 0).trans rfl
                have hcN := (blk_cell BN.out 0).trans rfl
                go_wp2
                refine start_ (n := 7) (S := fun w' => w'.cell? ⟨cW, 0, none⟩ = some (.int .i64 si) ∧ w'.cell? ⟨cN, 0, none⟩ = some (.map (some gx))) (ds := []) #[false, false, false, false, false, false, false] (by kernel_rfl) rfl rfl ⟨hcW, hcN⟩ (fun hHeld => ?_)
                refine pure_ (i := 0) (N := some 90) (v := ?_) (a' := ?_) #[true, false, false, false, false, false, false] rfl rfl (by kernel_rfl) (fun _ _ _ h => h) (Or.inl ⟨by rfl, ?_⟩) ?_ ?_
                rotate_left
                · intro w'
                  go_simp
                  with_reducible rfl
                rotate_left
                · simp only [Act.put, List.setIfInBounds_toArray, List.set_cons_zero, List.set_cons_succ, i64_w, i32_w]
                  rfl
                refine take_ (i := 1) (N := some 91) (v := ?_) (a' := ?_) #[true, true, false, false, false, false, false] rfl rfl (by kernel_rfl) (fun _ _ _ h => h) (Or.inl ⟨by rfl, ?_⟩) hHeld ?_ ?_
                rotate_left
                · rintro w' ⟨s0, s1⟩
                  go_simp
                  with_reducible rfl
                rotate_left
                · simp only [Act.put, List.setIfInBounds_toArray, List.set_cons_zero, List.set_cons_succ, i64_w, i32_w]
                  rfl
                refine take_ (i := 4) (N := some 94) (v := ?_) (a' := ?_) #[true, true, false, false, true, false, false] rfl rfl (by kernel_rfl) (fun _ _ _ h => h) (Or.inl ⟨by rfl, ?_⟩) hHeld ?_ ?_
                rotate_left
                · rintro w' ⟨s0, s1⟩
                  go_simp
                  with_reducible rfl
                rotate_left
                · simp only [Act.put, List.setIfInBounds_toArray, List.set_cons_zero, List.set_cons_succ, i64_w, i32_w]
                  rfl
                refine one_ (i := 2) (N := some 92) #[true, true, true, false, true, false, false] rfl rfl (by kernel_rfl) (by decide) (fun K hK => ?_)
                refine value_ (w1 := ?_) (v := ?_) (by rfl) rfl ?_ ?_
                rotate_left 2
                · go_simp
                  constructor
                  · rfl
                  · rfl
                refine hK.out _ _ ⟨(blk_cell (blk_alloc (show wr.drew.heap[cW]? = _ from BW.out) _) 0).trans rfl, (blk_cell (blk_alloc (show wr.drew.heap[cN]? = _ from BN.out) _) 0).trans rfl⟩ (fun hHeld => ?_)
                clear hK K
                refine norm_ (a' := ?_) ?_ ?_
                rotate_left
                · show Act.put _ (some 92) _ = _
                  simp only [Act.put, List.setIfInBounds_toArray, List.set_cons_zero, List.set_cons_succ, i64_w, i32_w]
                  rfl
                refine one_ (i := 3) (N := some 93) #[true, true, true, true, true, false, false] rfl rfl (by kernel_rfl) (by decide) (fun K hK => ?_)
                refine Kd.R_append_step (Kd.int .i64) (w0 := wr.drew) w.heap.size (by rfl) (.tmp 90) (.tmp 92) 28 2 (.int .i64 0) 8 rfl Try.underlying28 info2 rfl (by decide) (by omega) (.slice Ao out.length co) out si [.int .i64 si] (fun _ => True) (fun _ => False) rfl rfl rfl (fun _ hk => hk.elim) (fun _ _ => trivial) (Kd.R_drew HO.out) (Below.refl _ _) (by have := HOS.out.fr.size; exact this) (by have := HC1.out; omega) ?_
                intro v14' w12 ho hb hg hat
                have hF12 : Fr (fun k => some k = (Value.slice Ao out.length co).ownBlock) wr.drew w12 := Fr.of_grown hg (fun k e => e.symm)
                have HO12 := Aside0.mk ho
                have NEW_ := Aside0.mk (Kd.R_ne (Kd.R_drew HO.out) (g := cW) (w := wr.drew) BW.out (by decide))
                have NEN_ := Aside0.mk (Kd.R_ne (Kd.R_drew HO.out) (g := cN) (w := wr.drew) BN.out (by decide))
                have NE3_ := Aside0.mk (Kd.R_ne (Kd.R_drew HO.out) (g := g3) (w := wr.drew) HOS.out.b3 (by decide))
                have BW12 := Aside0.mk (hF12.blk (show wr.drew.heap[cW]? = _ from BW.out) NEW_.out)
                have BN12 := Aside0.mk (hF12.blk (show wr.drew.heap[cN]? = _ from BN.out) NEN_.out)
                have HT12 := Aside0.mk (HT.out.drew.fr hF12 (fun e => by obtain ⟨cells, hc⟩ := Kd.R_typed HO.out gx e.symm; exact HT.out.ne_cells hc rfl))
                have HOS12 := Aside0.mk ((HOS.out.below (w2 := wr.drew) (by repeat first | exact Below.refl _ _ | refine pw_below_drewN ?_ _ | refine Below.drew ?_)).new hF12 (fun k e => ⟨Kd.R_base HO.out k e.symm, fun e2 => NE3_.out (e2 ▸ e)⟩))
                clear ho hb hg hat hF12 NEW_ NEN_ NE3_
                refine hK.out _ _ ⟨(blk_cell BW12.out 0).trans rfl, (blk_cell BN12.out 0).trans rfl⟩ (fun hHeld => ?_)
                clear hK K
                refine norm_ (a' := ?_) ?_ ?_
                rotate_left
                · show Act.put _ (some 93) _ = _
                  simp only [Act.put, List.setIfInBounds_toArray, List.set_cons_zero, List.set_cons_succ, i64_w, i32_w]
                  rfl
                refine pure_ (i := 5) (N := some 14) (v := ?_) (a' := ?_) #[true, true, true, true, true, true, false] rfl rfl (by kernel_rfl) (fun _ _ _ h => h) (Or.inl ⟨by rfl, ?_⟩) ?_ ?_
                rotate_left
                · intro w'
                  go_simp
                  with_reducible rfl
                rotate_left
                · simp only [Act.put, List.setIfInBounds_toArray, List.set_cons_zero, List.set_cons_succ, i64_w, i32_w]
                  rfl
                refine pure_ (i := 6) (N := some 15) (v := ?_) (a' := ?_) #[true, true, true, true, true, true, true] rfl rfl (by kernel_rfl) (fun _ _ _ h => h) (Or.inl ⟨by rfl, ?_⟩) ?_ ?_
                rotate_left
                · intro w'
                  go_simp
                  with_reducible rfl
                rotate_left
                · simp only [Act.put, List.setIfInBounds_toArray, List.set_cons_zero, List.set_cons_succ, i64_w, i32_w]
                  rfl
                refine done_ (by kernel_rfl) ?_

                go_wp2
                go_roundg kk
                case measure => have := HK.out; omega
                case rel => exact ⟨gx, sk, _, rfl, HO12, HR3, HKK, HT12, ⟨by have := ND.out; omega⟩, ⟨by have := HLE.out; simp; omega⟩, ⟨by have := HK.out; omega⟩, HOS12⟩
              · rintro ⟨d, tl0, ts⟩ v w10 cnt2 ht hSt hv hRG hlt hgr hsz hen
                obtain ⟨htk, hvl⟩ : (⟨d, tl0, ts⟩ : T3) ∈ ks ∧ v = lf l fin ⟨d, tl0, ts⟩ := by
                  unfold kf at hv
                  split at hv
                  · exact ⟨by assumption, (Option.some.inj hv).symm⟩
                  · cases hv
                subst hvl
                clear hv
                have HTt := Aside0.mk (HKS.out.tk _ htk)
                obtain ⟨tl, htl, hts, rfl⟩ : ∃ tl : Nat, tl < l.length ∧ (0 ≤ ts ∧ ts ≤ 9) ∧ tl0 = (tl : Int) := by
                  obtain ⟨D, L, S', e, h1, h2, h3⟩ := HTt.out
                  cases e
                  exact ⟨L, h2, by omega, rfl⟩
                have hF10 : Fr (· = gr) wr w10 := Fr.of_grown hgr (fun k e => (Option.some.inj e).symm)
                have HZ := Aside0.mk (show gs < wr.heap.size ∧ gr < wr.heap.size ∧ gx < wr.heap.size from ⟨HRG.out.tm.lt, HRG.out.lt, HT.out.lt⟩)
                have HSZ := Aside0.mk hsz
                have HRG2 := Aside0.mk hRG
                have HMS := Aside0.mk (show w10.rangeLeft gs gr < wr.rangeLeft gs gr by rw [hRG.left_eq, HRG.out.left_eq]; exact hlt)
                have HTK := Aside0.mk htk
                have BW10 := Aside0.mk (hF10.blk BW.out (fun e => by have := ND.out; omega))
                have BN10 := Aside0.mk (hF10.blk BN.out (fun e => by have := ND.out; omega))
                have HT10 := Aside0.mk (HT.out.fr hF10 (fun e => by have := ND.out; omega))
                have HO10 := Aside0.mk (R_fr HO.out hF10 (fun k cs e h => by rw [e] at h; exact absurd h HRG.out.not_cells))
                have HOS10 := Aside0.mk (HOS.out.new hF10 (fun k e => by rw [e]; have := ND.out; omega))
                clear htk hF10 hsz hRG hlt hgr hSt ht HRG BW BN HT HO HOS
                go_wp2_with (first
                  | ((with_reducible refine gate_store (t := 2) (p := 19) rfl ?_); refine store_event (t := 2) (p := 19) (v := .tmp 85) (w1 := (w10.alloc (.cells #[.int .i64 d, .int .i64 tl, .int .i64 ts] 150 (0, 0))).alloc (.cells #[.int .i64 (lf l fin ⟨d, tl, ts⟩)] 2 (0, 0))) ?hg ?ho ?hn ?hr ?_; (case ho => rfl); (case hg => rfl); (case hn => rfl); (case hr => first | (go_simp; done) | (go_simp; rfl)); intro w11 hw; clear hen;
                     have hb : Below w10.heap.size w10 w11 := (by rw [hw]; exact ((Below.refl _ _).alloc (Nat.le_refl _) _).alloc (by simp) _);
                     have BT := Aside0.mk (show w11.heap[w10.heap.size]? = some (.cells #[.int .i64 d, .int .i64 tl, .int .i64 ts] 150 (0, 0)) by rw [hw]; exact blk_alloc (blk_new _ _) _);
                     have BV := Aside0.mk (show w11.heap[w10.heap.size + 1]? = some (.cells #[.int .i64 (lf l fin ⟨d, tl, ts⟩)] 2 (0, 0)) by rw [hw]; have h := blk_new (w10.alloc (.cells #[.int .i64 d, .int .i64 tl, .int .i64 ts] 150 (0, 0))) (.cells #[.int .i64 (lf l fin ⟨d, tl, ts⟩)] 2 (0, 0)); simpa using h);
                     have n1_ := Aside0.mk (HRG2.out.below hb); have n2_ := Aside0.mk (blk_below BW10.out hb); have n3_ := Aside0.mk (blk_below BN10.out hb); have n4_ := Aside0.mk (HT10.out.below hb); have n5_ := Aside0.mk (Kd.R_below HO10.out hb); have n6_ := Aside0.mk (HOS10.out.below hb);
                     have NL := Aside0.mk (show w10.rangeLeft gs gr = cnt2 from HRG2.out.left_eq);
                     clear HRG2 BW10 BN10 HT10 HO10 HOS10 hw hb; have HRG := n1_; have BW := n2_; have BN := n3_; have HT := n4_; have HO := n5_; have HOS := n6_; clear n1_ n2_ n3_ n4_ n5_ n6_;
                     have hg3 := (blk_cell HOS.out.b3 0).trans rfl; have hd0 := (blk_cell BT.out 0).trans rfl; have hd1 := (blk_cell BT.out 1).trans rfl; have hd2 := (blk_cell BT.out 2).trans rfl))
                go_wp2_with (first
                  | (go_at_call 124; (with_reducible refine (choices_ Try.func125 (by kernel_rfl) rfl #[.pointer (some ⟨cW, 0, none⟩), .pointer (some ⟨g3, 0, none⟩), .pointer (some ⟨w10.heap.size + 1, 0, none⟩), .pointer (some ⟨cN, 0, none⟩)] gp gb gm A c l fin d ts tl w11
                        (fun pre w' => OS w0 w gp gb gm g3 A c l fin w' ∧ KOk l.length (pre.foldl (stepN l fin (lf l fin ⟨d, tl, ts⟩)) (si, sk)).2 ∧ w'.heap[cW]? = some (.cells #[.int .i64 (pre.foldl (stepN l fin (lf l fin ⟨d, tl, ts⟩)) (si, sk)).1] 3 (0, 0)) ∧ w'.heap[w10.heap.size + 1]? = some (.cells #[.int .i64 (lf l fin ⟨d, tl, ts⟩)] 2 (0, 0)) ∧ w'.heap[cN]? = some (.cells #[.map (some gx)] 111 (0, 0)) ∧
                          TM w' gx (pre.foldl (stepN l fin (lf l fin ⟨d, tl, ts⟩)) (si, sk)).2.length (kf l fin (pre.foldl (stepN l fin (lf l fin ⟨d, tl, ts⟩)) (si, sk)).2)) (fun k => k = gm ∨ k = cW ∨ k = gx) ?q1 ?q2 ?q3 ?q4 ?q5 ?q6 ?q7 ?q8 ?q9).mono ?_);
                     (case q1 => exact hn); (case q2 => exact htl); (case q3 => exact hts); (case q4 => exact HROW.out); (case q5 => exact ⟨HOS.out, HKK.out, BW.out, BV.out, BN.out, HT.out⟩); (case q6 => exact fun pre w' h => h.1.pw.pl); (case q7 => exact fun pre w1 w2 h hb => ⟨h.1.below hb, h.2.1, blk_below h.2.2.1 hb, blk_below h.2.2.2.1 hb, blk_below h.2.2.2.2.1 hb, h.2.2.2.2.2.below hb⟩);
                     (case q8 => rintro k (rfl | rfl | rfl); exact HOS.out.mem.lt; exact blk_lt BW.out; exact HT.out.lt);
                     (case q9 =>
                        intro pre x post w' hsp hI
                        have hxo := itms_ok hn HTt.out x (by rw [hsp]; simp)
                        have hsz' := HSZ.out
                        have hz := HZ.out
                        have nd := ND.out
                        refine (order1_ w0 gp gb gm cW g3 (w10.heap.size + 1) cN gx A c l fin (pre.foldl (stepN l fin (lf l fin ⟨d, tl, ts⟩)) (si, sk)).1 (lf l fin ⟨d, tl, ts⟩) (pre.foldl (stepN l fin (lf l fin ⟨d, tl, ts⟩)) (si, sk)).2 x w' hn HROW.out hxo.1 hI.1.pw hI.1.mem hI.2.1 hI.2.2.1 hI.1.b3 hI.2.2.2.1 hI.2.2.2.2.1 hI.2.2.2.2.2 (by omega) (by omega) (by omega) (by omega) (by omega) (by omega) (by omega) (by omega) (by omega) (by omega) (by omega) (by omega)).mono ?_
                        rintro e w'' ⟨rfl, hM2, hW2, hT2, hF2⟩
                        refine ⟨rfl, ⟨hI.1.step hF2 (fun k hk => by omega) hM2, ?_, ?_, hF2.blk hI.2.2.2.1 (by omega), hF2.blk hI.2.2.2.2.1 (by omega), ?_⟩, hF2⟩
                        · rw [List.foldl_append]; exact hI.2.1.step hxo.1
                        · rw [List.foldl_append]; exact hW2
                        · rw [List.foldl_append]; exact hT2);
                     rintro e w12 ⟨rfl, ⟨hOS, hKK, hW, hV, hN, hT⟩, hF6⟩;
                     have n1_ := Aside0.mk (HRG.out.fr hF6 (by have := ND.out; omega) (by have := ND.out; omega)); have n2_ := Aside0.mk (R_fr HO.out hF6 (fun k cs e h => by
                       rcases e with e | e | e
                       · exact HOS.out.mem.ne_cells h e
                       · rw [e, BW.out] at h; cases h
                       · exact HT.out.ne_cells h e));
                     clear HRG HO HOS BW BV BN HT BT hF6 hg3 hd0 hd1 hd2; have HRG := n1_; have HO := n2_; have HOS := Aside0.mk hOS; have HKK2 := Aside0.mk hKK; have BW := Aside0.mk hW; have BN := Aside0.mk hN; have HT := Aside0.mk hT; clear n1_ n2_ hOS hKK hW hV hN hT))
                go_roundw
                case rel => exact ⟨fun u => S u ∧ u ≠ ⟨d, tl, ts⟩, cnt2, _, _, HRG, ⟨(HNX.out.fold (fin := fin) (want := lf l fin ⟨d, tl, ts⟩) (itms l fin ⟨d, tl, ts⟩ l.length) (fun x hx => (itms_ok hn HTt.out x hx).2.2.1)).congr fun x => Gd.take HTK.out x⟩, HKK2, BW, BN, HT, HO, HOS⟩
                case measure => rw [HRG.out.left_eq]; have := HMS.out; rw [NL.out] at this; exact this
          · have c1b : decide (out.length < l.length) = false := decide_eq_false c1
            have e := (ordR_done c1 gk ks).symm.trans HRUN.out
            subst e
            go_wp2
            go_ret3
            exact ⟨_, rfl, HO.out, HOS.out.fr⟩
end Go.Proofs.Ytaapbnhggfmlpaa.P
end
section
namespace Go.Proofs.Ytaapbnhggfmlpaa.P
open Go.RowKit Go.Proofs.YtaapbnhggfmlpaaW.PrintWords Go.Proofs.YtaapbnhggfmlpaaW.PrintLast Go.Proofs.YtaapbnhggfmlpaaW.PrintMore
attribute [local go_sem] max2_int min2_int max_two min_two max_three min_three max_four min_four   -- for this text's walks alone
set_option linter.unusedVariables false
set_option linter.unusedSimpArgs false

/-! ### impl_Bundle_wires: function 91 -/
def impl_Bundle_wires.l0 : Nat → List Int → Int → Int → Option (List Int)
 | 0, _, _, _ => none
 | k + 1, x3, x10, x11 => if x11 < x10 then (if x3.length < 17592186044416 then (impl_Bundle_wires.l0 k (x3 ++ [x11]) x10 (wrap64 (x11 + 1))) else (none)) else (some x3)
def impl_Bundle_wires.f (k : Nat) (l0_0 : List (List Int)) : Option (List Int) := impl_Bundle_wires.l0 k (([] : List Int)) (l0_0.length : Int) 0
theorem impl_Bundle_wires.mono_l : ∀ k, (∀ y0 y1 y2, LeO (impl_Bundle_wires.l0 k y0 y1 y2) (impl_Bundle_wires.l0 (k + 1) y0 y1 y2))
 | 0 => fun _ _ _ r h => by simp [impl_Bundle_wires.l0] at h
 | k + 1 => by
  have ih0 := impl_Bundle_wires.mono_l k
  ·intro y0 y1 y2
   unfold impl_Bundle_wires.l0
   repeat' first
   | (with_reducible exact ih0 _ _ _)
   | (with_reducible exact LeO.refl _)
   | (with_reducible exact LeO.none _)
   | (with_reducible refine LeO.ite ?_ ?_)
   | (with_reducible refine LeO.bind ?_ (fun _ => ?_))
   | exact ih0 _ _ _
   | exact LeO.none _
   | refine LeO.ite ?_ ?_
   | refine LeO.bind ?_ (fun _ => ?_)
theorem impl_Bundle_wires.mono : ∀ a0 k, LeO (impl_Bundle_wires.f k a0) (impl_Bundle_wires.f (k + 1) a0) := by
 intro a0 k
 have ih0 := impl_Bundle_wires.mono_l k
 unfold impl_Bundle_wires.f
 repeat' first
   | (with_reducible exact ih0 _ _ _)
   | (with_reducible exact LeO.refl _)
   | (with_reducible exact LeO.none _)
   | (with_reducible refine LeO.ite ?_ ?_)
   | (with_reducible refine LeO.bind ?_ (fun _ => ?_))
   | exact ih0 _ _ _
   | exact LeO.none _
   | refine LeO.ite ?_ ?_
   | refine LeO.bind ?_ (fun _ => ?_)
set_option maxHeartbeats 4000000 in
set_option maxRecDepth 100000 in
theorem impl_Bundle_wires.calls (k : Nat) (g0 : Nat) (A0_0 : Option Addr) (c0_0 : Nat) (l0_0 : List (List Int)) (r : List Int) (w : World) (hb0 : w.heap[g0]? = some (.cells #[.slice A0_0 l0_0.length c0_0] 44 (0, 0))) (hr0_0 : Kd.C (Kd.slice 2 (Kd.int .i64)) w A0_0 l0_0.length l0_0) (hc0_0 : l0_0.length ≤ c0_0) (h : impl_Bundle_wires.f k l0_0 = some r) :
  Calls Try.prog 91 #[.pointer (some ⟨g0, 0, none⟩)] w fun e w' => ∃ v0_ : Value, e = .returned (v0_) ∧ Kd.R (Kd.int .i64) 3 w' w.heap.size (fun _ => True) v0_ r ∧ Below w.heap.size w w' := by
 have HR0_0 := Aside0.mk hr0_0
 have HC0_0 := Aside0.mk hc0_0
 clear hr0_0 hc0_0
 have BK0 := Aside0.mk hb0
 clear hb0
 have HB := Aside0.mk (Below.refl w.heap.size w)
 have H : (impl_Bundle_wires.l0 k (([] : List Int)) (l0_0.length : Int) 0) = some r := h
 clear h
 obtain ⟨y709, hy709⟩ : ∃ y_ : List Int, y_ = (([] : List Int)) := ⟨_, rfl⟩
 replace H : (impl_Bundle_wires.l0 k y709 (l0_0.length : Int) 0) = some r := by first | (rw [hy709]; with_reducible exact H) | (have H2_ := (Option.bind_some _ _).symm.trans H; rw [hy709]; with_reducible exact H2_) | (have H2_ := (Option.bind_some _ _).symm.trans H; with_reducible exact H2_) | with_reducible exact H | (rw [hy709]; exact H) | exact H
 have Ny709 := Aside0.mk hy709
 clear hy709
 have H' := Aside0.mk H
 clear H
 go_enter Try.func91, Try.ntmps91
 go_wp2_with (first | ((with_reducible refine gate_dst (N := 5) rfl ?_); refine Kd.R_lit (Kd.int .i64) _ 3 ?hg (N := 5) ?hd (xs := ([] : List Int)) (inner := []) (ok := fun _ => True) (okp := fun _ => True) ?hr ?hp (fun _ hk => hk) trivial (Below.refl _ _) (Nat.le_refl _) (by simp) ?_; (case hd => rfl); (case hg => rfl); (case hr => first | (go_simp; done) | (go_simp; rfl)); (case hp => exact (Reps.none _ _)); intro v710 w2 ho3 hb hg_ hnew_; clear hg_ hnew_; (first | rw [← Ny709.out] at ho3 | (simp only [Int.reduceToNat] at ho3; rw [← Ny709.out] at ho3)); have n0_ := Aside0.mk (Kd.R_lower ho3 (below_size (by repeat (first | (with_reducible first | exact HB.out | apply below_alloc | apply pw_below_drewN | apply below_drew1) | exact HB.out)))); have n1_ := Aside0.mk (blk_below (g := g0) (o := .cells #[.slice A0_0 l0_0.length c0_0] 44 (0, 0)) (by (with_reducible repeat first | refine b_N ?_ _ | refine b_D ?_ | refine b_A ?_ _); exact BK0.out) hb); have n2_ := Aside0.mk (below_step (by repeat (first | (with_reducible first | exact HB.out | apply below_alloc | apply pw_below_drewN | apply below_drew1) | exact HB.out)) hb); clear BK0; clear HB; have HO711 := n0_; have BK0 := n1_; have HB := n2_; clear n0_ n1_ n2_; clear hb ho3; have hcz4_0 : w2.cell? ⟨g0, 0, none⟩ = some (.slice A0_0 l0_0.length c0_0) := (blk_cell BK0.out 0).trans rfl; have hfz4_0 := blk_frozen BK0.out 0))
 go_loopg [3, 11] k (fun kq v3 v11 w' => ∃ (x3_1 : List Int) (x11_1 : Int), v11 = .int .i64 x11_1 ∧ Aside0 (impl_Bundle_wires.l0 kq x3_1 (l0_0.length : Int) x11_1 = some r) ∧ Aside0 (kq ≤ k) ∧ Aside0 (Kd.R (Kd.int .i64) 3 w' w.heap.size (fun _ => True) v3 x3_1) ∧ Aside0 (w'.heap[g0]? = some (.cells #[(.slice A0_0 l0_0.length c0_0)] 44 (0, 0))) ∧ Aside0 (Below w.heap.size w w'))
 case atStart => exact ⟨(y709), (0), (by first | rfl | (simp; done) | (simp [*]; done)), H', ⟨Nat.le_refl _⟩, ⟨by (with_reducible repeat (first | apply Kd.R_alloc | apply Kd.R_drewN | apply Kd.R_drew)); exact HO711.out⟩, ⟨by (with_reducible repeat first | refine b_N ?_ _ | refine b_D ?_ | refine b_A ?_ _); exact BK0.out⟩, ⟨by repeat (first | (with_reducible first | exact HB.out | apply below_alloc | apply pw_below_drewN | apply below_drew1) | exact HB.out)⟩⟩
 case round =>
  clear H'
  try clear p2
  try clear hcz4_0
  try clear hfz4_0
  obtain ⟨x3_1, x11_1, rfl, HA, HK1, HO_3, BK0, HB⟩ := hrel
  cases gk with
  | zero => exact absurd HA.out (by simp [impl_Bundle_wires.l0])
  | succ k1 =>
   have H := HA.out
   clear HA
   simp only [impl_Bundle_wires.l0] at H
   by_cases c5 : x11_1 < (l0_0.length : Int)
   ·rw [if_pos c5] at H
    have c5b0 : decide (x11_1 < (l0_0.length : Int)) = true := decide_eq_true c5
    clear c5
    by_cases c6 : x3_1.length < 17592186044416
    ·rw [if_pos c6] at H
     have LMc6 := Aside0.mk c6
     clear c6
     obtain ⟨y712, hy712⟩ : ∃ y_ : List Int, y_ = (x3_1 ++ [x11_1]) := ⟨_, rfl⟩
     replace H : (impl_Bundle_wires.l0 k1 y712 (l0_0.length : Int) (wrap64 (x11_1 + 1))) = some r := by first | (rw [hy712]; with_reducible exact H) | (have H2_ := (Option.bind_some _ _).symm.trans H; rw [hy712]; with_reducible exact H2_) | (have H2_ := (Option.bind_some _ _).symm.trans H; with_reducible exact H2_) | with_reducible exact H | (rw [hy712]; exact H) | exact H
     have Ny712 := Aside0.mk hy712
     clear hy712
     have H' := Aside0.mk H
     clear H
     go_wp2_with (first | ((with_reducible refine gate_builtin (b := .append) (xs := #[.tmp 14, .tmp 16]) rfl ?_); at_builtin; refine Kd.R_append (Kd.int .i64) (w0 := w) w.heap.size rfl (.tmp 14) (.tmp 16) 101 3 (.int .i64 0) 8 rfl Try.underlying101 info3 rfl (by decide) (by omega) u3 x3_1 x11_1 [.int .i64 x11_1] (fun _ => True) (fun _ => False) rfl rfl ?aP (fun _ hk => hk.elim) ?aF ?aO ?aB ?aS ?aL ?_; (case aP => exact rfl); (case aB => exact (by repeat (first | (with_reducible first | exact HB.out | apply below_alloc | apply pw_below_drewN | apply below_drew1) | exact HB.out))); (case aF => exact (fun _ _ => trivial)); (case aO => exact (by (with_reducible repeat first | apply k_A | apply k_N | apply k_D); exact HO_3.out)); (case aS => exact (below_size (by repeat (first | (with_reducible first | exact HB.out | apply below_alloc | apply pw_below_drewN | apply below_drew1) | exact HB.out)))); (case aL => have := LMc6.out; omega); intro v713 w7 ho hb hg hat; rw [← Ny712.out] at ho; have n0_ := Aside0.mk (blk_grown (g := g0) (o := .cells #[.slice A0_0 l0_0.length c0_0] 44 (0, 0)) (by (with_reducible repeat first | refine b_N ?_ _ | refine b_D ?_ | refine b_A ?_ _); exact BK0.out) hg (Kd.R_ne HO_3.out BK0.out (by decide))); have n1_ := Aside0.mk (hb); have n2_ := Aside0.mk (ho); clear BK0; clear HB; clear HO_3; have BK0 := n0_; have HB := n1_; have HO714 := n2_; clear n0_ n1_ n2_; clear ho hb hg hat))
     go_roundg k1
     case measure => have := HK1.out; omega
     case rel => exact ⟨(y712), (wrap64 (x11_1 + 1)), (by first | rfl | (simp; done) | (simp [*]; done)), H', ⟨by have := HK1.out; omega⟩, ⟨by (with_reducible repeat (first | apply Kd.R_alloc | apply Kd.R_drewN | apply Kd.R_drew)); exact HO714.out⟩, ⟨by (with_reducible repeat first | refine b_N ?_ _ | refine b_D ?_ | refine b_A ?_ _); exact BK0.out⟩, ⟨by repeat (first | (with_reducible first | exact HB.out | apply below_alloc | apply pw_below_drewN | apply below_drew1) | exact HB.out)⟩⟩
    ·rw [if_neg c6] at H
     exact absurd H (by simp)
   ·rw [if_neg c5] at H
    have c5b0 : decide (x11_1 < (l0_0.length : Int)) = false := decide_eq_false c5
    clear c5
    obtain rfl := Option.some.inj H
    go_wp2
    go_ret
    exact ⟨_, by first | rfl | (simp [errW_none, errW_some] <;> rfl) | (simp [*, errW_none, errW_some] <;> rfl), by (with_reducible repeat (first | apply Kd.R_alloc | apply Kd.R_drewN | apply Kd.R_drew)); exact HO_3.out, by repeat (first | (with_reducible first | exact HB.out | apply below_alloc | apply pw_below_drewN | apply below_drew1) | exact HB.out)⟩

end Go.Proofs.Ytaapbnhggfmlpaa.P
end
section
set_option linter.unusedVariables false
namespace Go.Proofs.Ytaapbnhggfmlpaa.B
open Go.RowKit Go.Proofs.Ytaapbnhggfmlpaa.P Go.Proofs.YtaapbnhggfmlpaaW.PrintWords Go.Proofs.YtaapbnhggfmlpaaW.PrintLast
theorem w64 {x : Int} (h : -9223372036854775808 ≤ x ∧ x ≤ 9223372036854775807) : wrap64 x = x := by unfold wrap64; omega
theorem w64s {i n : Nat} (h : i < n) (hn : n ≤ 9223372036854775807) : wrap64 ((i : Int) + 1) = ((i + 1 : Nat) : Int) := by rw [w64 (by omega)]; push_cast; rfl
theorem rd_nat (xs : List Int) (i : Nat) : rd xs (i : Int) = xs.getD i 0 := rfl
theorem rdL_nat (xs : List (List Int)) (i : Nat) : rd_Ls2 xs (i : Int) = xs.getD i [] := rfl
theorem getD_mem {α : Type} {l : List α} {i : Nat} {d : α} (h : i < l.length) : l.getD i d ∈ l := by
  rw [List.getD_eq_getElem?_getD, List.getElem?_eq_getElem h]; exact List.getElem_mem h

/-- The weight of two wires. -/
def Wt (l : List (List Int)) (i j : Nat) : Int := (l.getD i []).getD j 0
structure Valid (l : List (List Int)) : Prop where
  pos : 1 ≤ l.length
  le : l.length ≤ 9
  row : ∀ i, i < l.length → (l.getD i []).length = l.length
  bound : ∀ i j, i < l.length → j < l.length → 0 ≤ Wt l i j ∧ Wt l i j ≤ 1000
  sym : ∀ i j, i < l.length → j < l.length → Wt l i j = Wt l j i
  zero : ∀ i, i < l.length → Wt l i i = 0

theorem in_impl (a b c : Int) : impl_in.f a b c = some (decide (a ≥ b ∧ a ≤ c)) := by
  unfold impl_in.f
  by_cases h : a ≥ b
  · rw [if_pos h]; simp [h]
  · rw [if_neg h]; simp [h]

section
variable (l : List (List Int)) (n9 : l.length ≤ 9)
include n9
def RowOk (i : Nat) : Prop := (l.getD i []).length = l.length ∧ Wt l i i = 0 ∧ ∀ j, j < l.length → 0 ≤ Wt l i j ∧ Wt l i j ≤ 1000 ∧ (l.getD j []).length = l.length ∧ Wt l j i = Wt l i j

theorem vb1 (i : Nat) (hi : i < l.length) (hrow : (l.getD i []).length = l.length) (F : Nat → Prop) (rest : ∀ k, 226 ≤ k + 24 * i → ∃ b, impl_ValidBundle.l0 k l.length l l.length ((i + 1 : Nat) : Int) l = some b ∧ (b = true ↔ F i)) :
    ∀ (d k j : Nat), l.length - j = d → 2 * d + 227 ≤ k + 24 * i → j ≤ l.length → ∃ b, impl_ValidBundle.l1 k l.length i l l.length i (l.getD i []) ((l.getD i []).length) j l = some b ∧ (b = true ↔ (∀ j', j ≤ j' → j' < l.length → 0 ≤ Wt l i j' ∧ Wt l i j' ≤ 1000 ∧ (l.getD j' []).length = l.length ∧ Wt l j' i = Wt l i j') ∧ F i) := by
  intro d
  induction d with
  | zero =>
    intro k j hd hk hj
    obtain ⟨k, rfl⟩ : ∃ m, k = m + 1 := ⟨k - 1, by omega⟩
    simp only [impl_ValidBundle.l1]
    rw [if_neg (by omega), w64s hi (by omega)]
    obtain ⟨b, hb, hb'⟩ := rest k (by omega)
    exact ⟨b, hb, hb'.trans ⟨fun h => ⟨fun j' h1 h2 => by omega, h⟩, fun h => h.2⟩⟩
  | succ d ih =>
    intro k j hd hk hj
    obtain ⟨k, rfl⟩ : ∃ m, k = m + 1 := ⟨k - 1, by omega⟩
    have hjl : j < l.length := by omega
    obtain ⟨k, rfl⟩ : ∃ m, k = m + 1 := ⟨k - 1, by omega⟩
    simp only [impl_ValidBundle.l1, impl_ValidBundle.j3]
    rw [if_pos (by omega), if_pos (by omega), if_pos (by omega), rd_nat, in_impl]
    simp only [Option.bind_some]
    rw [rdL_nat, rd_nat, show (l.getD i []).getD j 0 = Wt l i j from rfl, show (l.getD j []).getD i 0 = Wt l j i from rfl]
    obtain ⟨b, hb, hb'⟩ := ih k (j + 1) (by omega) (by omega) (by omega)
    have split : (∀ j', j ≤ j' → j' < l.length → 0 ≤ Wt l i j' ∧ Wt l i j' ≤ 1000 ∧ (l.getD j' []).length = l.length ∧ Wt l j' i = Wt l i j') ↔ (0 ≤ Wt l i j ∧ Wt l i j ≤ 1000 ∧ (l.getD j []).length = l.length ∧ Wt l j i = Wt l i j) ∧ ∀ j', j + 1 ≤ j' → j' < l.length → 0 ≤ Wt l i j' ∧ Wt l i j' ≤ 1000 ∧ (l.getD j' []).length = l.length ∧ Wt l j' i = Wt l i j' :=
      ⟨fun h => ⟨h j (Nat.le_refl _) hjl, fun j' h1 h2 => h j' (by omega) h2⟩, fun h j' h1 h2 => by
        by_cases e : j' = j
        · subst e; exact h.1
        · exact h.2 j' (by omega) h2⟩
    rw [split]
    by_cases c1 : Wt l i j ≥ 0 ∧ Wt l i j ≤ 1000
    · rw [decide_eq_true c1, if_pos rfl, if_pos (by omega)]
      by_cases c2 : (l.getD j []).length = l.length
      · rw [if_pos (by omega), if_pos (by omega), if_pos (by omega)]
        by_cases c3 : Wt l j i = Wt l i j
        · rw [if_neg (by simp [c3]), w64s hjl (by omega)]
          exact ⟨b, hb, hb'.trans ⟨fun h => ⟨⟨⟨c1.1, c1.2, c2, c3⟩, h.1⟩, h.2⟩, fun h => ⟨h.1.2, h.2⟩⟩⟩
        · rw [if_pos (by simp [c3])]
          exact ⟨false, rfl, by constructor; (intro h; cases h); (intro h; exact absurd h.1.1.2.2.2 c3)⟩
      · rw [if_neg (by omega), if_pos trivial]
        exact ⟨false, rfl, by constructor; (intro h; cases h); (intro h; exact absurd h.1.1.2.2.1 c2)⟩
    · rw [decide_eq_false c1, if_neg (by decide), if_pos trivial]
      exact ⟨false, rfl, by constructor; (intro h; cases h); (intro h; exact absurd ⟨h.1.1.1, h.1.1.2.1⟩ c1)⟩

theorem vb0 : ∀ (d i k : Nat), l.length - i = d → 250 ≤ k + 24 * i → i ≤ l.length →
    ∃ b, impl_ValidBundle.l0 k l.length l l.length i l = some b ∧ (b = true ↔ ∀ i', i ≤ i' → i' < l.length → RowOk l i') := by
  intro d
  induction d with
  | zero =>
    intro i k hd hk hi
    obtain ⟨k, rfl⟩ : ∃ m, k = m + 1 := ⟨k - 1, by omega⟩
    simp only [impl_ValidBundle.l0]
    rw [if_neg (by omega)]
    exact ⟨true, rfl, by simp; intro i' h1 h2; omega⟩
  | succ d ih =>
    intro i k hd hk hi
    obtain ⟨k, rfl⟩ : ∃ m, k = m + 1 := ⟨k - 1, by omega⟩
    obtain ⟨k, rfl⟩ : ∃ m, k = m + 1 := ⟨k - 1, by omega⟩
    have hil : i < l.length := by omega
    have split : (∀ i', i ≤ i' → i' < l.length → RowOk l i') ↔ RowOk l i ∧ ∀ i', i + 1 ≤ i' → i' < l.length → RowOk l i' :=
      ⟨fun h => ⟨h i (Nat.le_refl _) hil, fun j' h1 h2 => h j' (by omega) h2⟩, fun h j' h1 h2 => by
        by_cases e : j' = i
        · subst e; exact h.1
        · exact h.2 j' (by omega) h2⟩
    rw [split]
    simp only [impl_ValidBundle.l0, impl_ValidBundle.j1]
    rw [if_pos (by omega), if_pos (by omega), if_pos (by omega), rdL_nat]
    by_cases c : (l.getD i []).length = l.length
    · rw [if_pos (by omega), if_pos (by omega), rd_nat, show (l.getD i []).getD i 0 = Wt l i i from rfl]
      by_cases c0 : Wt l i i = 0
      · rw [if_neg (by simp [c0])]
        obtain ⟨b, hb, hb'⟩ := vb1 l n9 i hil c (fun i => ∀ i', i + 1 ≤ i' → i' < l.length → RowOk l i') (fun k hk => ih (i + 1) k (by omega) (by omega) (by omega)) l.length k 0 rfl (by omega) (by omega)
        refine ⟨b, hb, hb'.trans ⟨fun h => ⟨⟨c, c0, fun j hj => h.1 j (by omega) hj⟩, h.2⟩, fun h => ⟨fun j' _ h2 => h.1.2.2 j' h2, h.2⟩⟩⟩
      · rw [if_pos (by simp [c0])]
        exact ⟨false, rfl, by constructor; (intro h; cases h); (intro h; exact absurd h.1.2.1 c0)⟩
    · rw [if_neg (by omega), if_pos trivial]
      exact ⟨false, rfl, by constructor; (intro h; cases h); (intro h; exact absurd h.1.1 c)⟩
end
theorem valid_iff' (l : List (List Int)) (n1 : 1 ≤ l.length) (n9 : l.length ≤ 9) : Valid l ↔ ∀ i, i < l.length → RowOk l i :=
  ⟨fun h i hi => ⟨h.row i hi, h.zero i hi, fun j hj => ⟨(h.bound i j hi hj).1, (h.bound i j hi hj).2, h.row j hj, h.sym j i hj hi⟩⟩,
   fun h => ⟨n1, n9, fun i hi => (h i hi).1, fun i j hi hj => ⟨((h i hi).2.2 j hj).1, ((h i hi).2.2 j hj).2.1⟩, fun i j hi hj => ((h i hi).2.2 j hj).2.2.2.symm, fun i hi => (h i hi).2.1⟩⟩

open Classical in
theorem validBundle (l : List (List Int)) (k : Nat) (hk : 250 ≤ k) : impl_ValidBundle.f k l = some (decide (Valid l)) := by
  unfold impl_ValidBundle.f
  rw [in_impl]
  simp only [Option.bind_some]
  by_cases c : (l.length : Int) ≥ 1 ∧ (l.length : Int) ≤ 9
  · rw [decide_eq_true c, if_pos rfl, show (0 : Int) = ((0 : Nat) : Int) from rfl]
    obtain ⟨b, hb, hb'⟩ := vb0 l (by omega) l.length 0 k rfl (by omega) (by omega)
    rw [hb]
    have hb'' : b = true ↔ Valid l := hb'.trans ((valid_iff' l (by omega) (by omega)).trans ⟨fun h i _ hi => h i hi, fun h i hi => h i (by omega) hi⟩).symm
    congr 1
    rw [Bool.eq_iff_iff, hb'']; simp
  · rw [decide_eq_false c, if_neg (by decide)]
    congr 1
    symm
    rw [decide_eq_false_iff_not]
    intro h
    exact c ⟨by have := h.pos; omega, by have := h.le; omega⟩
/-- With rounds enough, g answers r. -/
def Evl {α : Type} (g : Nat → Option α) (r : α) : Prop := ∃ K, ∀ k, K ≤ k → g k = some r
theorem Evl.of {α : Type} {g : Nat → Option α} {r : α} (K : Nat) (h : ∀ k, K ≤ k → g k = some r) : Evl g r := ⟨K, h⟩
theorem Evl.step {α : Type} {g h : Nat → Option α} {r : α} (K : Nat) (e : ∀ k, K ≤ k → g (k + 1) = h k) (H : Evl h r) : Evl g r := by
  obtain ⟨K', h'⟩ := H
  refine ⟨K + K' + 1, fun k hk => ?_⟩
  obtain ⟨k, rfl⟩ : ∃ m, k = m + 1 := ⟨k - 1, by omega⟩
  rw [e k (by omega), h' k (by omega)]
theorem Evl.same {α : Type} {g h : Nat → Option α} {r : α} (K : Nat) (e : ∀ k, K ≤ k → g k = h k) (H : Evl h r) : Evl g r := by
  obtain ⟨K', h'⟩ := H
  exact ⟨K + K', fun k hk => by rw [e k (by omega), h' k (by omega)]⟩
theorem Evl.bind {α β : Type} {g : Nat → Option α} {h : Nat → α → Option β} {a : α} {r : β} (H : Evl g a) (H' : Evl (fun k => h k a) r) : Evl (fun k => (g k).bind (h k)) r := by
  obtain ⟨K, h1⟩ := H
  obtain ⟨K', h2⟩ := H'
  exact ⟨K + K', fun k hk => by show (g k).bind (h k) = _; rw [h1 k (by omega)]; exact h2 k (by omega)⟩

def up (S : List Nat) : List Int := S.map (fun v : Nat => (v : Int))
theorem up_length (S : List Nat) : (up S).length = S.length := by simp [up]
theorem up_mem (S : List Nat) (v : Nat) : (v : Int) ∈ up S ↔ v ∈ S := by
  unfold up
  rw [List.mem_map]
  constructor
  · rintro ⟨a, h, e⟩
    obtain rfl : a = v := by omega
    exact h
  · exact fun h => ⟨v, h, rfl⟩
theorem up_getD (S : List Nat) (i : Nat) (h : i < S.length) : (up S).getD i 0 = ((S.getD i 0 : Nat) : Int) := by
  simp [up, List.getD_eq_getElem?_getD, List.getElem?_eq_getElem h]
theorem up_snoc (S : List Nat) (a : Nat) : up S ++ [(a : Int)] = up (S ++ [a]) := by simp [up]

end Go.Proofs.Ytaapbnhggfmlpaa.B
end
section
set_option linter.unusedVariables false
set_option linter.unusedSimpArgs false
namespace Go.Proofs.Ytaapbnhggfmlpaa.P
open Go.RowKit Go.Proofs.YtaapbnhggfmlpaaW.PrintWords Go.Proofs.YtaapbnhggfmlpaaW.PrintLast Go.Proofs.YtaapbnhggfmlpaaW.PrintMore
open Go.Proofs.Ytaapbnhggfmlpaa.M Go.Proofs.Ytaapbnhggfmlpaa.A
open Go.Proofs.Ytaapbnhggfmlpaa.B (Valid validBundle in_impl)
theorem wires_ (l : List (List Int)) (hn : l.length ≤ 9) : impl_Bundle_wires.f 20 l = some ((List.range l.length).map fun x : Nat => (x : Int)) := by
  unfold impl_Bundle_wires.f
  have h : ∀ (d i k : Nat), l.length - i = d → d < k → i ≤ l.length → impl_Bundle_wires.l0 k ((List.range i).map fun x : Nat => (x : Int)) l.length i = some ((List.range l.length).map fun x : Nat => (x : Int)) := by
    intro d
    induction d with
    | zero =>
      intro i k hd hk hi
      obtain ⟨k, rfl⟩ : ∃ m, k = m + 1 := ⟨k - 1, by omega⟩
      obtain rfl : i = l.length := by omega
      simp only [impl_Bundle_wires.l0]
      rw [if_neg (by omega)]
    | succ d ih =>
      intro i k hd hk hi
      obtain ⟨k, rfl⟩ : ∃ m, k = m + 1 := ⟨k - 1, by omega⟩
      simp only [impl_Bundle_wires.l0]
      rw [if_pos (by omega), if_pos (by simp; omega), Go.Proofs.Ytaapbnhggfmlpaa.B.w64s (n := l.length) (by omega) (by omega)]
      have e : ((List.range i).map fun x : Nat => (x : Int)) ++ [(i : Int)] = (List.range (i + 1)).map fun x : Nat => (x : Int) := by rw [List.range_succ, List.map_append]; rfl
      rw [e]
      exact ih (i + 1) k (by omega) (by omega) (by omega)
  have := h l.length 0 20 (by omega) (by omega) (by omega)
  simpa using this
theorem Mem.start {w : World} {l : List (List Int)} {fin : Int} {gm : Nat} (h : TM w gm 0 (fun _ => none)) : Mem l fin gm w :=
  ⟨[], fun _ => none, List.nodup_nil, by simp, by simp, h⟩
theorem rows_ {l : List (List Int)} (V : Valid l) : ∀ j : Nat, j < l.length → (rd_Ls2 l j).length = l.length := V.row
/-- A slice of wires, as the call owns it, is a block of its own. -/
theorem own_form {e n : Nat} {w : World} {base : Nat} {v : Value} {xs : List Int} (h : Kd.R (Kd.int .i64) e w base (fun _ => True) v xs) (hp : 0 < xs.length) (hn : xs.length = n) :
    ∃ g cap, v = .slice (some ⟨g, 0, none⟩) n cap ∧ n ≤ cap ∧ ∃ cells, w.heap[g]? = some (.cells cells e (0, 0)) := by
  subst hn
  obtain ⟨g, cap, e1, h1, h2, h3⟩ := Kd.R_form h hp
  obtain ⟨A, c, e', h4, _⟩ := Kd.R_reads h
  rw [e1] at e'
  cases e'
  exact ⟨g, _, e1, h4, h3⟩
theorem order_own (w0 : World) (gp gb gm : Nat) (A : Option Addr) (c : Nat) (l : List (List Int)) (fin s : Int) (g cb base n : Nat) (ws : List Nat) (cells : Array Value) (w : World) (hn : l.length ≤ 9) (h0 : 0 < l.length) (hrow : ∀ j : Nat, j < l.length → (rd_Ls2 l j).length = l.length)
    (hs : 0 ≤ s ∧ s ≤ 9) (hws : ∀ (i : Nat) (h : i < ws.length), ws[i] < l.length) (hlen : ws.length ≤ 9) (hcb : n ≤ cb) (hnw : ws.length = n) (hW : PW w0 gp gb gm A c l fin w) (hM : Mem l fin gm w)
    (hR : Kd.R (Kd.int .i64) 3 w base (fun _ => True) (.slice (some ⟨g, 0, none⟩) n cb) (ws.map fun x : Nat => (x : Int))) (hg : w.heap[g]? = some (.cells cells 3 (0, 0))) (r1 : List Int) (r2 : Int) (r3 : Bool) (hr : orderF l fin s ws = (r1, r2, r3)) :
    Calls Try.prog 89 #[.pointer (some ⟨gp, 0, none⟩), .slice (some ⟨g, 0, none⟩) n cb, .int .i64 s] w fun e w' => ∃ v0_ : Value, e = .returned (.tuple #[v0_, .int .i64 r2, .bool r3]) ∧ Kd.R (Kd.int .i64) 2 w' w.heap.size (fun _ => True) v0_ r1 ∧ Fr (· = gm) w w' := by
  subst hnw
  refine order_ w0 gp gb gm A c l fin s ⟨g, 0, none⟩ cb ws w hn h0 hrow hs hws hlen hcb hW hM (hM.ne_cells hg) ?_ r1 r2 r3 hr
  intro i h
  have h1 := (Kd.R_celln (0 : Int) hR (i : Int) (by omega) (by omega)).1
  rw [Int.toNat_natCast] at h1
  rw [show (⟨g, 0, none⟩ : Addr).add i = ⟨g, i, none⟩ by simp [Addr.add]; exact Eq.symm, h1]
  simp [rdOf, h]
def impl_BestOrder.f (l0_0 : List (List Int)) (a1 : Int) : Option (List Int × Int × Bool) :=
  (impl_ValidBundle.f 300 l0_0).bind fun v => if v = true ∧ 0 ≤ a1 ∧ a1 ≤ (l0_0.length : Int) - 1 then some (orderF l0_0 (-1) a1 (List.range l0_0.length)) else some ([], 0, false)
set_option maxHeartbeats 2000000 in
set_option maxRecDepth 100000 in
theorem impl_BestOrder.calls (A0_0 : Option Addr) (c0_0 : Nat) (l0_0 : List (List Int)) (a1 : Int) (r1 : List Int) (r2 : Int) (r3 : Bool) (w : World) (hr0_0 : Kd.C (Kd.slice 2 (Kd.int .i64)) w A0_0 l0_0.length l0_0) (hc0_0 : l0_0.length ≤ c0_0) (h : impl_BestOrder.f l0_0 a1 = some (r1, r2, r3)) :
    Calls Try.prog 40 #[.agg #[.slice A0_0 l0_0.length c0_0], .int .i64 a1] w fun e w' => ∃ v0_ : Value, e = .returned (.tuple #[v0_, .int .i64 r2, .bool r3]) ∧ Kd.R (Kd.int .i64) 2 w' w.heap.size (fun _ => True) v0_ r1 ∧ Below w.heap.size w w' := by
  obtain ⟨v, hv0, h⟩ := Option.bind_eq_some_iff.mp h
  have hv := Aside0.mk hv0
  have hVd : v = true → Valid l0_0 := fun e => by
    have := (validBundle l0_0 300 (by omega)).symm.trans hv0
    subst e
    simpa using this
  clear hv0
  have HR := Aside0.mk hr0_0
  have HC := Aside0.mk hc0_0
  clear hr0_0 hc0_0
  have hu44 := Try.underlying44
  have HB := Aside0.mk (Below.refl w.heap.size w)
  cases v with
  | false =>
    rw [if_neg (fun h => by simp at h)] at h
    cases h
    clear hVd
    go_enter Try.func40, Try.ntmps40
    go_wp2_with (first
      | ((with_reducible refine gate_dst (N := 2) rfl ?_); refine box_event ?hg (N := 2) ?hd (cs := #[.slice A0_0 l0_0.length c0_0]) (t := 44) ?hr ?_; (case hd => rfl); (case hg => rfl); (case hr => first | (go_simp; done) | (go_simp; rfl)); intro gb hg w2 hbox hb; have n1_ := Aside0.mk (below_step HB.out hb); have n2_ := Aside0.mk hbox; clear HB hb hbox hg; have HB := n1_; have BK := n2_; clear n1_ n2_; have hcz := (blk_cell BK.out 0).trans rfl)
      | (go_at_call 54; (with_reducible refine (impl_ValidBundle.calls 300 _ _ l0_0 false _ ?s1 ?s2 hv.out).mono ?_); (case s1 => exact Kd.C_below HR.out HB.out); (case s2 => exact HC.out); rintro e w3 ⟨rfl, hb⟩; have n1_ := Aside0.mk (below_step HB.out hb); clear HB hb hcz; have HB := n1_; clear n1_))
    go_ret3
    exact ⟨_, rfl, Kd.R_nil _ _ _ _ _, HB.out⟩
  | true =>
    have V := hVd rfl
    have n1 := V.pos
    have n0 : 0 < l0_0.length := V.pos
    have n9 := V.le
    have HV := Aside0.mk V
    clear hVd V
    by_cases hc : 0 ≤ a1 ∧ a1 ≤ (l0_0.length : Int) - 1
    · rw [if_pos ⟨rfl, hc⟩] at h
      have HH := Aside0.mk (Option.some.inj h)
      clear h
      have HW := Aside0.mk (wires_ l0_0 n9)
      have HIN : Aside0 (impl_in.f a1 0 ((l0_0.length : Int) - 1) = some true) := ⟨by rw [in_impl, decide_eq_true (by omega)]⟩
      obtain ⟨hc0, hc1⟩ := hc
      go_enter Try.func40, Try.ntmps40
      go_wp2_with (first
        | ((with_reducible refine gate_dst (N := 2) rfl ?_); refine box_event ?hg (N := 2) ?hd (cs := #[.slice A0_0 l0_0.length c0_0]) (t := 44) ?hr ?_; (case hd => rfl); (case hg => rfl); (case hr => first | (go_simp; done) | (go_simp; rfl)); intro gb hg w2 hbox hb; have n1_ := Aside0.mk (below_step HB.out hb); have n2_ := Aside0.mk hbox; clear HB hb hbox hg; have HB := n1_; have BK := n2_; clear n1_ n2_; have hcz := (blk_cell BK.out 0).trans rfl)
        | (go_at_call 54; (with_reducible refine (impl_ValidBundle.calls 300 _ _ l0_0 true _ ?s1t ?s2t hv.out).mono ?_); (case s1t => exact Kd.C_below HR.out HB.out); (case s2t => exact HC.out); rintro e w3 ⟨rfl, hb⟩; have n1_ := Aside0.mk (below_step HB.out hb); have n2_ := Aside0.mk (blk_below BK.out hb); clear HB hb BK hcz; have HB := n1_; have BK := n2_; clear n1_ n2_; have hcz := (blk_cell BK.out 0).trans rfl)
        | (go_at_call 64; (with_reducible refine (impl_in.calls a1 0 ((l0_0.length : Int) - 1) true _ HIN.out).mono ?_); rintro e w4 ⟨rfl, hd⟩; have hb := hd.below; have n1_ := Aside0.mk (below_step HB.out hb); have n2_ := Aside0.mk (blk_below BK.out hb); clear HB hb BK hcz hd; have HB := n1_; have BK := n2_; clear n1_ n2_)
        | (refine wp_tmake _ rfl rfl ?_; intro gm w5 hgm hT hb; have HT5 := Aside0.mk hT; have NB := Aside0.mk (show gb ≠ gm ∧ w.heap.size ≤ gm from ⟨fun e => by have := blk_lt BK.out; omega, by have := HB.out.size; omega⟩); have n1_ := Aside0.mk (below_step HB.out hb); have n2_ := Aside0.mk (blk_below BK.out hb); clear HB BK hT hb hgm; have HB := n1_; have BK := n2_; clear n1_ n2_)
        | ((with_reducible refine gate_store (t := 113) (p := 7) rfl ?_); refine store_event (t := 113) (p := 7) (v := .tmp 21) (w1 := w5.alloc (.cells #[.pointer (some ⟨gb, 0, none⟩), .int .i64 (-1), .map (some gm)] 113 (0, 0))) ?hg ?ho ?hn ?hr ?_; (case ho => rfl); (case hg => rfl); (case hn => rfl); (case hr => first | (go_simp; done) | (go_simp; rfl)); intro w6 hw;
           have hb : Below w5.heap.size w5 w6 := (by rw [hw]; exact (Below.refl _ _).alloc (Nat.le_refl _) _); have BP := Aside0.mk (show w6.heap[w5.heap.size]? = some (.cells #[.pointer (some ⟨gb, 0, none⟩), .int .i64 (-1), .map (some gm)] 113 (0, 0)) by rw [hw]; exact blk_new _ _);
           have NP := Aside0.mk (show w5.heap.size ≠ gm from fun e => by have := HT5.out.lt; omega); have n1_ := Aside0.mk (below_step HB.out hb); have n2_ := Aside0.mk (blk_below BK.out hb); have n3_ := Aside0.mk (HT5.out.below hb); clear HB BK HT5 hb hw; have HB := n1_; have BK := n2_; have HT := n3_; clear n1_ n2_ n3_;
           have HPW := Aside0.mk (PW.mk (w0 := w) (c := c0_0) HB.out NB.out.2 NP.out NB.out.1 BP.out BK.out HR.out); have HM := Aside0.mk (Mem.start (l := l0_0) (fin := -1) HT.out))
        | (go_at_call 91; (with_reducible refine (impl_Bundle_wires.calls 20 gb A0_0 c0_0 l0_0 _ _ ?t1 ?t2 ?t3 HW.out).mono ?_); (case t1 => exact BK.out); (case t2 => exact Kd.C_below HR.out HB.out); (case t3 => exact HC.out); rintro e w7 ⟨v7, rfl, ho, hb⟩;
           have HO := Aside0.mk ho; have n1_ := Aside0.mk (HPW.out.below hb); have n2_ := Aside0.mk (HM.out.below hb); clear HPW HM ho hb BK BP HT HB; have HPW := n1_; have HM := n2_; clear n1_ n2_;
           obtain ⟨Ab, cb, e7, hle, cells, hcells⟩ := own_form HO.out (by simp; omega) (n := l0_0.length) (by simp); subst e7; have HLE := Aside0.mk hle; have HCE := Aside0.mk hcells; clear hle hcells)
        | (go_at_call 89; (with_reducible refine (order_own w w5.heap.size gb gm A0_0 c0_0 l0_0 (-1) a1 Ab cb w6.heap.size l0_0.length (List.range l0_0.length) cells w7 n9 n0 (rows_ HV.out) ?u1 ?u2 ?u3 HLE.out ?u4 HPW.out HM.out HO.out HCE.out r1 r2 r3 HH.out).mono ?_); (case u1 => omega); (case u2 => intro i h; simpa using h); (case u3 => simpa using n9); (case u4 => simp);
           rintro e w8 ⟨v8, rfl, ho, hf⟩; have HO8 := Aside0.mk (Kd.R_lower ho HPW.out.bl.size); have HB8 := Aside0.mk (Fr.below HPW.out.bl hf HPW.out.bl.size (fun k e => by rw [e]; exact NB.out.2)); clear ho hf))
      go_ret3
      exact ⟨_, rfl, HO8.out, HB8.out⟩
    · rw [if_neg (fun h => hc h.2)] at h
      cases h
      have HIN : Aside0 (impl_in.f a1 0 ((l0_0.length : Int) - 1) = some false) := ⟨by rw [in_impl, decide_eq_false (by omega)]⟩
      clear hc
      go_enter Try.func40, Try.ntmps40
      go_wp2_with (first
        | ((with_reducible refine gate_dst (N := 2) rfl ?_); refine box_event ?hg (N := 2) ?hd (cs := #[.slice A0_0 l0_0.length c0_0]) (t := 44) ?hr ?_; (case hd => rfl); (case hg => rfl); (case hr => first | (go_simp; done) | (go_simp; rfl)); intro gb hg w2 hbox hb; have n1_ := Aside0.mk (below_step HB.out hb); have n2_ := Aside0.mk hbox; clear HB hb hbox hg; have HB := n1_; have BK := n2_; clear n1_ n2_; have hcz := (blk_cell BK.out 0).trans rfl)
        | (go_at_call 54; (with_reducible refine (impl_ValidBundle.calls 300 _ _ l0_0 true _ ?s1f ?s2f hv.out).mono ?_); (case s1f => exact Kd.C_below HR.out HB.out); (case s2f => exact HC.out); rintro e w3 ⟨rfl, hb⟩; have n1_ := Aside0.mk (below_step HB.out hb); have n2_ := Aside0.mk (blk_below BK.out hb); clear HB hb BK hcz; have HB := n1_; have BK := n2_; clear n1_ n2_; have hcz := (blk_cell BK.out 0).trans rfl)
        | (go_at_call 64; (with_reducible refine (impl_in.calls a1 0 ((l0_0.length : Int) - 1) false _ HIN.out).mono ?_); rintro e w4 ⟨rfl, hd⟩; have hb := hd.below; have n1_ := Aside0.mk (below_step HB.out hb); clear HB hb hcz hd; have HB := n1_; clear n1_))
      go_ret3
      exact ⟨_, rfl, Kd.R_nil _ _ _ _ _, HB.out⟩
end Go.Proofs.Ytaapbnhggfmlpaa.P
end
