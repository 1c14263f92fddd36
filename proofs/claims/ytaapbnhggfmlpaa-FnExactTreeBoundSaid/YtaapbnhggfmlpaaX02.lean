/- What the call of the program TreeBound does: it answers what a plain loop over lists answers, and leaves memory as it was but for new blocks. -/
import Derived.Test.YtaapbnhggfmlpaaPx0
import Derived.Test.YtaapbnhggfmlpaaPxf54
import Derived.Test.YtaapbnhggfmlpaaM0
import Derived.Test.YtaapbnhggfmlpaaA1
namespace Go.Proofs.Ytaapbnhggfmlpaa.P
open Go.RowKit Go.Proofs.YtaapbnhggfmlpaaW.PrintWords Go.Proofs.YtaapbnhggfmlpaaW.PrintLast Go.Proofs.YtaapbnhggfmlpaaW.PrintMore
open Go.Proofs.Ytaapbnhggfmlpaa.M Go.Proofs.Ytaapbnhggfmlpaa.A
theorem bmap96 : BMap Try.prog 96 3 4 .i64 := ⟨Try.underlying96, Try.underlying3, Try.underlying4, fun w => by kernel_rfl⟩
def impl_TreeBound.f (l0_0 : List (List Int)) : Option (Int × Bool) :=
  (impl_ValidBundle.f 300 l0_0).bind fun v => if v = true then (tbRun l0_0 12 [0] 0).bind fun s => some (s, true) else some (0, false)
set_option maxHeartbeats 2000000 in
set_option maxRecDepth 100000 in
theorem impl_TreeBound.calls (A0_0 : Option Addr) (c0_0 : Nat) (l0_0 : List (List Int)) (r1 : Int) (r2 : Bool) (w : World) (hr0_0 : Kd.C (Kd.slice 2 (Kd.int .i64)) w A0_0 l0_0.length l0_0) (hc0_0 : l0_0.length ≤ c0_0) (h : impl_TreeBound.f l0_0 = some (r1, r2)) :
    Calls Try.prog 27 #[.agg #[.slice A0_0 l0_0.length c0_0]] w fun e w' => e = .returned (.tuple #[.int .i64 r1, .bool r2]) ∧ Below w.heap.size w w' := by
  obtain ⟨v, hv0, h⟩ := Option.bind_eq_some_iff.mp h
  have hv := Aside0.mk hv0
  clear hv0
  have HR := Aside0.mk hr0_0
  have HC := Aside0.mk hc0_0
  clear hr0_0 hc0_0
  have hu44 := Try.underlying44
  have HB := Aside0.mk (Below.refl w.heap.size w)
  cases v with
  | false =>
    simp only [Bool.false_eq_true, if_false, Option.some.injEq, Prod.mk.injEq] at h
    obtain ⟨rfl, rfl⟩ := h
    go_enter Try.func27, Try.ntmps27
    go_wp2_with (first
      | ((with_reducible refine gate_dst (N := 1) rfl ?_); refine box_event ?hg (N := 1) ?hd (cs := #[.slice A0_0 l0_0.length c0_0]) (t := 44) ?hr ?_; (case hd => rfl); (case hg => rfl); (case hr => first | (go_simp; done) | (go_simp; rfl)); intro gb hg w2 hbox hb; have n1_ := Aside0.mk (below_step HB.out hb); have n2_ := Aside0.mk hbox; clear HB hb hbox hg; have HB := n1_; have BK := n2_; clear n1_ n2_; have hcz := (blk_cell BK.out 0).trans rfl)
      | (go_at_call 54; (with_reducible refine (impl_ValidBundle.calls 300 _ _ l0_0 false _ ?s1 ?s2 hv.out).mono ?_); (case s1 => exact Kd.C_below HR.out HB.out); (case s2 => exact HC.out); rintro e w3 ⟨rfl, hb⟩; have n1_ := Aside0.mk (below_step HB.out hb); clear HB hb; have HB := n1_; clear n1_))
    go_ret2
    exact ⟨rfl, HB.out⟩
  | true =>
    simp only [if_true] at h
    obtain ⟨s, hs0, h⟩ := Option.bind_eq_some_iff.mp h
    have hs := Aside0.mk hs0
    clear hs0
    simp only [Option.some.injEq, Prod.mk.injEq] at h
    obtain ⟨rfl, rfl⟩ := h
    go_enter Try.func27, Try.ntmps27
    go_wp2_with (first
      | ((with_reducible refine gate_dst (N := 1) rfl ?_); refine box_event ?hg (N := 1) ?hd (cs := #[.slice A0_0 l0_0.length c0_0]) (t := 44) ?hr ?_; (case hd => rfl); (case hg => rfl); (case hr => first | (go_simp; done) | (go_simp; rfl)); intro gb hg w2 hbox hb; have n1_ := Aside0.mk (below_step HB.out hb); have n2_ := Aside0.mk hbox; clear HB hb hbox hg; have HB := n1_; have BK := n2_; clear n1_ n2_; have hcz := (blk_cell BK.out 0).trans rfl)
      | (go_at_call 54; (with_reducible refine (impl_ValidBundle.calls 300 _ _ l0_0 true _ ?s1t ?s2t hv.out).mono ?_); (case s1t => exact Kd.C_below HR.out HB.out); (case s2t => exact HC.out); rintro e w3 ⟨rfl, hb⟩; have n1_ := Aside0.mk (below_step HB.out hb); have n2_ := Aside0.mk (blk_below BK.out hb); clear HB hb BK; have HB := n1_; have BK := n2_; clear n1_ n2_)
      | (refine wp_make _ rfl 96 rfl ?_; intro bm w4 hbm hraw hM0 hb; have hM := Aside0.mk (hM0 Try.prog 3 4 .i64); have hne := Aside0.mk (by rw [hbm]; exact Nat.ne_of_lt (blk_lt BK.out) : gb ≠ bm); have n2_ := Aside0.mk (blk_below BK.out hb); have hge := Aside0.mk (by rw [hbm]; exact HB.out.size : w.heap.size ≤ bm); have n1_ := Aside0.mk (below_step HB.out hb); clear HB hb BK hM0 hraw hbm; have HB := n1_; have BK := n2_; clear n1_ n2_)
      | (refine wp_put _ rfl _ _ _ 96 (.inr rfl) bmap96 bm 0 [] rfl hM.out (by decide) 0 rfl rfl (by decide) (by simp) ?_; intro w5 hM1 hgr; have n1_ := Aside0.mk (HB.out.grown hgr HB.out.size (fun k e => by cases e; exact hge.out)); have n2_ := Aside0.mk (blk_grown BK.out hgr (fun e => hne.out (Option.some.inj e))); have n3_ := Aside0.mk hM1; clear HB BK hM hM1 hgr; have HB := n1_; have BK := n2_; have hM := n3_; clear n1_ n2_ n3_))
    go_loopg [5] 12 (fun kq v5 w' => ∃ (R : List Int) (s1 : Int), v5 = .int .i64 s1 ∧ Aside0 (tbRun l0_0 kq R s1 = some s) ∧ Aside0 (kq ≤ 12) ∧ Aside0 (R.length + kq = 13) ∧ Aside0 (BM Try.prog 3 4 .i64 w' bm R.length R) ∧ Aside0 (Below w.heap.size w w') ∧ Aside0 (w'.heap[gb]? = some (.cells #[.slice A0_0 l0_0.length c0_0] 44 (0, 0))))
    case atStart => exact ⟨[0], 0, rfl, hs, ⟨by omega⟩, ⟨rfl⟩, hM, HB, BK⟩
    case round =>
      clear hM HB BK hs
      obtain ⟨R, s1, rfl, hs, hk12, hRk, hM, HB, BK⟩ := hrel
      cases gk with
      | zero => exact absurd hs.out (by simp [tbRun])
      | succ kk =>
        have H := hs.out
        clear hs
        simp only [tbRun] at H
        by_cases c1 : R.length < l0_0.length
        · rw [if_pos c1] at H
          have hcz := (blk_cell BK.out 0).trans rfl
          have c1b : decide (R.length < l0_0.length) = true := decide_eq_true c1
          by_cases c2 : (tbOut R l0_0 0 (-1) 0).2 ∈ R ∨ (Lit.int .i64 (tbOut R l0_0 0 (-1) 0).2).wf = false
          · rw [if_pos c2] at H; exact absurd H (by simp)
          · rw [if_neg c2] at H
            have H' := Aside0.mk H
            have c2' := Aside0.mk c2
            clear H c2
            go_wp2_with (first | (refine wp_len _ rfl _ 96 rfl bmap96 bm R.length R rfl hM.out ?_))
            have HRw := Aside0.mk (Kd.C_below HR.out HB.out)
            have hlm0 := Kd.C_max HRw.out
            go_loop [6, 7, 25] (fun v6 v7 v25 => ∃ (b a : Int) (i : Nat), v6 = .int .i64 b ∧ v7 = .int .i64 a ∧ v25 = .int .i64 i ∧ i ≤ l0_0.length ∧ Aside0 (tbOut R (l0_0.drop i) i b a = tbOut R l0_0 0 (-1) 0)) (fun _ _ v => l0_0.length - (intOf v).toNat)
            case atStart => exact ⟨-1, 0, 0, rfl, rfl, rfl, Nat.zero_le _, ⟨rfl⟩⟩
            case round =>
              obtain ⟨b, a, i, rfl, rfl, rfl, hi, hT⟩ := hrel
              by_cases ci : i < l0_0.length
              · have p1 : 0 ≤ (i : Int) := by omega
                have q1 : (i : Int) < (l0_0.length : Int) := by omega
                obtain ⟨ad, A1, c1', e1, hx, hl1, hi1⟩ := at_Ls2 HRw.out i p1 q1
                cases e1
                have hx' : wr.cell? (ad.add i) = some (.slice A1 (rd_Ls2 l0_0 i).length c1') := hx
                have HI := Aside0.mk hi1
                clear hi1 hx
                have hlm := Kd.C_max HI.out
                have hR1 := Aside0.mk (hM.out.look bmap96 (a := (i : Int)) (WalkArith.wf_i64 (by have := Kd.C_max HRw.out; omega)))
                go_wp2
                go_loop [6, 7, 34] (fun v6 v7 v34 => ∃ (b1 a1 : Int) (k : Nat), v6 = .int .i64 b1 ∧ v7 = .int .i64 a1 ∧ v34 = .int .i64 k ∧ k ≤ (rd_Ls2 l0_0 i).length ∧ Aside0 (tbIn R i ((rd_Ls2 l0_0 i).drop k) k b1 a1 = tbIn R i (rd_Ls2 l0_0 i) 0 b a)) (fun _ _ v => (rd_Ls2 l0_0 i).length - (intOf v).toNat)
                case atStart => exact ⟨b, a, 0, rfl, rfl, rfl, Nat.zero_le _, ⟨rfl⟩⟩
                case round =>
                  obtain ⟨b1, a1, k, rfl, rfl, rfl, hk, hU⟩ := hrel
                  by_cases ck : k < (rd_Ls2 l0_0 i).length
                  · have pk : 0 ≤ (k : Int) := by omega
                    have qk : (k : Int) < ((rd_Ls2 l0_0 i).length : Int) := by omega
                    obtain ⟨ad2, e2, hx2⟩ := Kd.at_int HI.out k pk qk
                    cases e2
                    have hx2' : wr.cell? (ad2.add k) = some (.int .i64 (rd (rd_Ls2 l0_0 i) k)) := hx2
                    clear hx2
                    have hR2 := Aside0.mk (hM.out.look bmap96 (a := (k : Int)) (WalkArith.wf_i64 (by omega)))
                    have hS := Aside0.mk (tbIn_drop R i (rd_Ls2 l0_0 i) k b1 a1 ck)
                    obtain ⟨x, hx⟩ : ∃ x, x = rd (rd_Ls2 l0_0 i) k := ⟨_, rfl⟩
                    rw [← hx] at hx2'
                    replace hx := Aside0.mk hx
                    have hR1' := hR1.out
                    have hR2' := hR2.out
                    rw [show (rd_Ls2 l0_0 i).getD k 0 = x from hx.out.symm, hU.out] at hS
                    by_cases m1 : (i : Int) ∈ R
                    · simp only [m1, decide_true] at hR1'
                      by_cases m2 : (k : Int) ∈ R
                      · simp only [m2, decide_true] at hR2'
                        have hS' := Aside0.mk (hS.out.trans (if_neg (fun h => h.2.1 m2)))
                        go_wp2
                        go_round
                        case rel => exact ⟨b1, a1, k + 1, rfl, rfl, by go_num, by omega, ⟨by push_cast; exact hS'.out.symm⟩⟩
                        case measure => simp [intOf]; omega
                      · simp only [m2, decide_false] at hR2'
                        by_cases m3 : b1 < 0
                        · have hS' := Aside0.mk (hS.out.trans (if_pos ⟨m1, m2, .inl m3⟩))
                          go_wp2
                          go_round
                          case rel => exact ⟨x, k, k + 1, rfl, rfl, by go_num, by omega, ⟨by push_cast; exact hS'.out.symm⟩⟩
                          case measure => simp [intOf]; omega
                        · by_cases m4 : x < b1
                          · have hS' := Aside0.mk (hS.out.trans (if_pos ⟨m1, m2, .inr m4⟩))
                            go_wp2
                            go_round
                            case rel => exact ⟨x, k, k + 1, rfl, rfl, by go_num, by omega, ⟨by push_cast; exact hS'.out.symm⟩⟩
                            case measure => simp [intOf]; omega
                          · have hS' := Aside0.mk (hS.out.trans (if_neg (fun h => h.2.2.elim m3 m4)))
                            go_wp2
                            go_round
                            case rel => exact ⟨b1, a1, k + 1, rfl, rfl, by go_num, by omega, ⟨by push_cast; exact hS'.out.symm⟩⟩
                            case measure => simp [intOf]; omega
                    · simp only [m1, decide_false] at hR1'
                      have hS' := Aside0.mk (hS.out.trans (if_neg (fun h => m1 h.1)))
                      go_wp2
                      go_round
                      case rel => exact ⟨b1, a1, k + 1, rfl, rfl, by go_num, by omega, ⟨by push_cast; exact hS'.out.symm⟩⟩
                      case measure => simp [intOf]; omega
                  · have : k = (rd_Ls2 l0_0 i).length := by omega
                    subst this
                    have hE := hU.out
                    rw [List.drop_length] at hE
                    simp only [tbIn] at hE
                    have hE1 := Aside0.mk hE
                    have hT1 := Aside0.mk ((tbOut_drop R l0_0 i b a ci).symm.trans hT.out)
                    clear hE
                    go_wp2
                    go_round
                    case rel => exact ⟨b1, a1, i + 1, rfl, rfl, by go_num, by omega, ⟨by have e := hT1.out; rw [show l0_0.getD i [] = rd_Ls2 l0_0 i from rfl, ← hE1.out] at e; push_cast; exact e⟩⟩
                    case measure => simp [intOf]; omega
              · have : i = l0_0.length := by omega
                subst this
                have hE := hT.out
                rw [List.drop_length] at hE
                simp only [tbOut] at hE
                rw [← hE] at c2' H'
                have c3 := Aside0.mk (not_or.mp c2'.out)
                have c4 := Aside0.mk (by have := c3.out.2; simpa using this : (Lit.int .i64 a).wf = true)
                clear hE hT c2'
                go_wp2_with (first | (refine wp_put _ rfl _ _ _ 96 (.inl rfl) bmap96 bm R.length R rfl hM.out (by have := hRk.out; unfold maxLen; omega) a rfl rfl c4.out c3.out.1 ?_; intro w6 hM1 hgr; have n1_ := Aside0.mk (HB.out.grown hgr HB.out.size (fun k e => by cases e; exact hge.out)); have n2_ := Aside0.mk (blk_grown BK.out hgr (fun e => hne.out (Option.some.inj e))); have n3_ := Aside0.mk hM1; clear HB BK hM hM1 hgr; have HB := n1_; have BK := n2_; have hM := n3_; clear n1_ n2_ n3_))
                go_roundg kk
                case measure => omega
                case rel => exact ⟨a :: R, _, rfl, H', ⟨by have := hk12.out; omega⟩, ⟨by have := hRk.out; simp; omega⟩, hM, HB, BK⟩
        · rw [if_neg c1] at H
          obtain rfl := Option.some.inj H
          have hcz := (blk_cell BK.out 0).trans rfl
          have c1b : decide (R.length < l0_0.length) = false := decide_eq_false c1
          go_wp2_with (first | (refine wp_len _ rfl _ 96 rfl bmap96 bm R.length R rfl hM.out ?_))
          go_ret2
          exact ⟨rfl, HB.out⟩
end Go.Proofs.Ytaapbnhggfmlpaa.P
