/- Lemmas and contracts of functions, part 5 of 7, for this law: The law FnBetween holds for every input: the best order between two ends begins and ends with them, no drawn order with these ends has a lesser coupling, and the best of all ends is the best order. -/
import Derived.Test.YtaapbnhggfmlpaaBetweenQ4
section
set_option linter.unusedVariables false
set_option linter.unusedSimpArgs false
namespace Go.Proofs.Ytaapbnhggfmlpaa.P
open Go.RowKit Go.Proofs.YtaapbnhggfmlpaaW.PrintWords Go.Proofs.YtaapbnhggfmlpaaW.PrintLast Go.Proofs.YtaapbnhggfmlpaaW.PrintMore
open Go.Proofs.Ytaapbnhggfmlpaa.M Go.Proofs.Ytaapbnhggfmlpaa.A
open Go.Proofs.Ytaapbnhggfmlpaa.B (Valid validBundle in_impl)
def impl_BestBetween.f (l0_0 : List (List Int)) (a1 : Int) (a2 : Int) : Option (List Int × Int × Bool) :=
  (impl_ValidBundle.f 300 l0_0).bind fun v => if v = true ∧ (0 ≤ a1 ∧ a1 ≤ (l0_0.length : Int) - 1) ∧ (0 ≤ a2 ∧ a2 ≤ (l0_0.length : Int) - 1) ∧ (a1 = a2 ↔ (l0_0.length : Int) - 1 = 0) then some (orderF l0_0 a2 0 [a1.toNat]) else some ([], 0, false)
set_option maxHeartbeats 2000000 in
set_option maxRecDepth 100000 in
theorem impl_BestBetween.calls (A0_0 : Option Addr) (c0_0 : Nat) (l0_0 : List (List Int)) (a1 : Int) (a2 : Int) (r1 : List Int) (r2 : Int) (r3 : Bool) (w : World) (hr0_0 : Kd.C (Kd.slice 2 (Kd.int .i64)) w A0_0 l0_0.length l0_0) (hc0_0 : l0_0.length ≤ c0_0) (h : impl_BestBetween.f l0_0 a1 a2 = some (r1, r2, r3)) :
    Calls Try.prog 38 #[.agg #[.slice A0_0 l0_0.length c0_0], .int .i64 a1, .int .i64 a2] w fun e w' => ∃ v0_ : Value, e = .returned (.tuple #[v0_, .int .i64 r2, .bool r3]) ∧ Kd.R (Kd.int .i64) 2 w' w.heap.size (fun _ => True) v0_ r1 ∧ Below w.heap.size w w' := by
  obtain ⟨v, hv0, h⟩ := Option.bind_eq_some_iff.mp h
  have hv := Aside0.mk hv0
  have hVd : v = true → Valid l0_0 := fun e => by
    have := (validBundle l0_0 300 (by omega)).symm.trans hv0
    subst e
    simpa using this
  clear hv0
  have HR := Aside0.mk hr0_0
  have HC := Aside0.mk hc0_0
  have hmx := Kd.C_max hr0_0
  clear hr0_0 hc0_0
  have hu44 := Try.underlying44
  have HB := Aside0.mk (Below.refl w.heap.size w)
  cases v with
  | false =>
    rw [if_neg (fun h => by simp at h)] at h
    cases h
    clear hVd
    go_enter Try.func38, Try.ntmps38
    go_wp2_with (first
      | ((with_reducible refine gate_dst (N := 3) rfl ?_); refine box_event ?hg (N := 3) ?hd (cs := #[.slice A0_0 l0_0.length c0_0]) (t := 44) ?hr ?_; (case hd => rfl); (case hg => rfl); (case hr => first | (go_simp; done) | (go_simp; rfl)); intro gb hg w2 hbox hb; have n1_ := Aside0.mk (below_step HB.out hb); have n2_ := Aside0.mk hbox; clear HB hb hbox hg; have HB := n1_; have BK := n2_; clear n1_ n2_; have hcz := (blk_cell BK.out 0).trans rfl)
      | (go_at_call 54; (with_reducible refine (impl_ValidBundle.calls 300 _ _ l0_0 false _ ?s1a ?s1b hv.out).mono ?_); (case s1a => exact Kd.C_below HR.out HB.out); (case s1b => exact HC.out); rintro e w3 ⟨rfl, hb⟩; have n1_ := Aside0.mk (below_step HB.out hb); have n2_ := Aside0.mk (blk_below BK.out hb); clear HB hb BK hcz; have HB := n1_; have BK := n2_; clear n1_ n2_))
    go_ret3
    exact ⟨_, rfl, Kd.R_nil _ _ _ _ _, HB.out⟩
  | true =>
    have V := hVd rfl
    have n0 : 0 < l0_0.length := V.pos
    have n9 := V.le
    have HV := Aside0.mk V
    clear hVd V hmx
    by_cases h1 : 0 ≤ a1 ∧ a1 ≤ (l0_0.length : Int) - 1
    · have HIN1 : Aside0 (impl_in.f a1 0 ((l0_0.length : Int) - 1) = some true) := ⟨by rw [in_impl, decide_eq_true (by omega)]⟩
      by_cases h2 : 0 ≤ a2 ∧ a2 ≤ (l0_0.length : Int) - 1
      · have HIN2 : Aside0 (impl_in.f a2 0 ((l0_0.length : Int) - 1) = some true) := ⟨by rw [in_impl, decide_eq_true (by omega)]⟩
        by_cases h3 : a1 = a2 ↔ (l0_0.length : Int) - 1 = 0
        · rw [if_pos ⟨rfl, h1, h2, h3⟩] at h
          have HH := Aside0.mk (Option.some.inj h)
          clear h
          have hq : (a1 == a2) = ((l0_0.length : Int) - 1 == 0) := by
            rw [Bool.eq_iff_iff, beq_iff_eq, beq_iff_eq]
            exact h3
          have hne : ((a1 == a2) == ((l0_0.length : Int) - 1 == 0)) = true := by rw [hq]; simp
          clear hq h3
          obtain ⟨n, hn1, rfl⟩ : ∃ n : Nat, n < l0_0.length ∧ a1 = n := ⟨a1.toNat, by omega, by omega⟩
          simp only [Int.toNat_natCast] at HH
          obtain ⟨h20, h21⟩ := h2
          clear h1
          go_enter Try.func38, Try.ntmps38
          go_wp2_with (first
            | ((with_reducible refine gate_dst (N := 3) rfl ?_); refine box_event ?hg (N := 3) ?hd (cs := #[.slice A0_0 l0_0.length c0_0]) (t := 44) ?hr ?_; (case hd => rfl); (case hg => rfl); (case hr => first | (go_simp; done) | (go_simp; rfl)); intro gb hg w2 hbox hb; have n1_ := Aside0.mk (below_step HB.out hb); have n2_ := Aside0.mk hbox; clear HB hb hbox hg; have HB := n1_; have BK := n2_; clear n1_ n2_; have hcz := (blk_cell BK.out 0).trans rfl)
            | (go_at_call 54; (with_reducible refine (impl_ValidBundle.calls 300 _ _ l0_0 true _ ?s2a ?s2b hv.out).mono ?_); (case s2a => exact Kd.C_below HR.out HB.out); (case s2b => exact HC.out); rintro e w3 ⟨rfl, hb⟩; have n1_ := Aside0.mk (below_step HB.out hb); have n2_ := Aside0.mk (blk_below BK.out hb); clear HB hb BK hcz; have HB := n1_; have BK := n2_; clear n1_ n2_)
            | (go_at_call 64; (with_reducible refine (impl_in.calls n 0 ((l0_0.length : Int) - 1) true _ HIN1.out).mono ?_); rintro e w4 ⟨rfl, hd⟩; have hb := hd.below; have n1_ := Aside0.mk (below_step HB.out hb); have n2_ := Aside0.mk (blk_below BK.out hb); clear HB hb BK hd; have HB := n1_; have BK := n2_; clear n1_ n2_)
            | (go_at_call 64; (with_reducible refine (impl_in.calls a2 0 ((l0_0.length : Int) - 1) true _ HIN2.out).mono ?_); rintro e w4b ⟨rfl, hd⟩; have hb := hd.below; have n1_ := Aside0.mk (below_step HB.out hb); have n2_ := Aside0.mk (blk_below BK.out hb); clear HB hb BK hd; have HB := n1_; have BK := n2_; clear n1_ n2_)
            | (refine wp_tmake _ rfl rfl ?_; intro gm w5 hgm hT hb; have HT5 := Aside0.mk hT; have NB := Aside0.mk (show gb ≠ gm ∧ w.heap.size ≤ gm from ⟨fun e => by have := blk_lt BK.out; omega, by have := HB.out.size; omega⟩); have n1_ := Aside0.mk (below_step HB.out hb); have n2_ := Aside0.mk (blk_below BK.out hb); clear HB BK hT hb hgm; have HB := n1_; have BK := n2_; clear n1_ n2_)
            | ((with_reducible refine gate_store (t := 113) (p := 10) rfl ?_); refine store_event (t := 113) (p := 10) (v := .tmp 40) (w1 := w5.alloc (.cells #[.pointer (some ⟨gb, 0, none⟩), .int .i64 a2, .map (some gm)] 113 (0, 0))) ?hg ?ho ?hn ?hr ?_; (case ho => rfl); (case hg => rfl); (case hn => rfl); (case hr => first | (go_simp; done) | (go_simp; rfl)); intro w6 hw;
               have hb : Below w5.heap.size w5 w6 := (by rw [hw]; exact (Below.refl _ _).alloc (Nat.le_refl _) _); have BP := Aside0.mk (show w6.heap[w5.heap.size]? = some (.cells #[.pointer (some ⟨gb, 0, none⟩), .int .i64 a2, .map (some gm)] 113 (0, 0)) by rw [hw]; exact blk_new _ _);
               have NP := Aside0.mk (show w5.heap.size ≠ gm from fun e => by have := HT5.out.lt; omega); have n1_ := Aside0.mk (below_step HB.out hb); have n2_ := Aside0.mk (blk_below BK.out hb); have n3_ := Aside0.mk (HT5.out.below hb); clear HB BK HT5 hb hw; have HB := n1_; have BK := n2_; have HT := n3_; clear n1_ n2_ n3_;
               have HPW := Aside0.mk (PW.mk (w0 := w) (c := c0_0) HB.out NB.out.2 NP.out NB.out.1 BP.out BK.out HR.out); have HM := Aside0.mk (Mem.start (l := l0_0) (fin := a2) HT.out))
            | ((with_reducible refine gate_dst (N := 42) rfl ?_); refine Kd.R_lit (Kd.int .i64) (w0 := w6) w6.heap.size 3 ?hg (N := 42) ?hd (xs := ([(n : Int)] : List Int)) (inner := [.int .i64 n]) (ok := fun _ => True) (okp := fun _ => True) ?hr ?hp (fun _ hk => hk) trivial (Below.refl _ _) (Nat.le_refl _) (by simp) ?_; (case hd => rfl); (case hg => rfl); (case hr => first | (go_simp; done) | (go_simp; rfl)); (case hp => exact (Reps.one (show Kd.M (Kd.int .i64) _ _ _ (n : Int) [.int .i64 n] from rfl) (Reps.none _ _))); intro v7 w7 ho hb hg_ hnew_; clear hg_ hnew_;
               have HO := Aside0.mk ho; have n1_ := Aside0.mk (HPW.out.below hb); have n2_ := Aside0.mk (HM.out.below hb); clear HPW HM ho hb BK BP HT HB; have HPW := n1_; have HM := n2_; clear n1_ n2_; obtain ⟨Ab, cb, e7, hle, cells, hcells⟩ := own_form HO.out (by simp) (n := 1) (by simp); subst e7; have HLE := Aside0.mk hle; have HCE := Aside0.mk hcells; clear hle hcells)
            | (go_at_call 89; (with_reducible refine (order_own w w5.heap.size gb gm A0_0 c0_0 l0_0 a2 0 Ab cb w6.heap.size 1 [n] cells w7 n9 n0 (rows_ HV.out) ?u1 ?u2 ?u3 HLE.out ?u4 HPW.out HM.out ?u5 HCE.out r1 r2 r3 HH.out).mono ?_); (case u1 => omega); (case u5 => exact HO.out); (case u2 => intro i h; simp at h; subst h; exact hn1); (case u3 => simp); (case u4 => simp);
               rintro e w8 ⟨v8, rfl, ho, hf⟩; have HO8 := Aside0.mk (Kd.R_lower ho HPW.out.bl.size); have HB8 := Aside0.mk (Fr.below HPW.out.bl hf HPW.out.bl.size (fun k e => by rw [e]; exact NB.out.2)); clear ho hf))
          go_ret3
          exact ⟨_, rfl, HO8.out, HB8.out⟩
        · rw [if_neg (fun h => h3 h.2.2.2)] at h
          cases h
          have hne : ((a1 == a2) == ((l0_0.length : Int) - 1 == 0)) = false := by
            rw [beq_eq_false_iff_ne]
            intro e
            rw [Bool.eq_iff_iff, beq_iff_eq, beq_iff_eq] at e
            exact h3 e
          clear h3
          obtain ⟨h10, h11⟩ := h1
          obtain ⟨h20, h21⟩ := h2
          go_enter Try.func38, Try.ntmps38
          go_wp2_with (first
            | ((with_reducible refine gate_dst (N := 3) rfl ?_); refine box_event ?hg (N := 3) ?hd (cs := #[.slice A0_0 l0_0.length c0_0]) (t := 44) ?hr ?_; (case hd => rfl); (case hg => rfl); (case hr => first | (go_simp; done) | (go_simp; rfl)); intro gb hg w2 hbox hb; have n1_ := Aside0.mk (below_step HB.out hb); have n2_ := Aside0.mk hbox; clear HB hb hbox hg; have HB := n1_; have BK := n2_; clear n1_ n2_; have hcz := (blk_cell BK.out 0).trans rfl)
            | (go_at_call 54; (with_reducible refine (impl_ValidBundle.calls 300 _ _ l0_0 true _ ?s3a ?s3b hv.out).mono ?_); (case s3a => exact Kd.C_below HR.out HB.out); (case s3b => exact HC.out); rintro e w3 ⟨rfl, hb⟩; have n1_ := Aside0.mk (below_step HB.out hb); have n2_ := Aside0.mk (blk_below BK.out hb); clear HB hb BK hcz; have HB := n1_; have BK := n2_; clear n1_ n2_)
            | (go_at_call 64; (with_reducible refine (impl_in.calls a1 0 ((l0_0.length : Int) - 1) true _ HIN1.out).mono ?_); rintro e w4 ⟨rfl, hd⟩; have hb := hd.below; have n1_ := Aside0.mk (below_step HB.out hb); have n2_ := Aside0.mk (blk_below BK.out hb); clear HB hb BK hd; have HB := n1_; have BK := n2_; clear n1_ n2_)
            | (go_at_call 64; (with_reducible refine (impl_in.calls a2 0 ((l0_0.length : Int) - 1) true _ HIN2.out).mono ?_); rintro e w4b ⟨rfl, hd⟩; have hb := hd.below; have n1_ := Aside0.mk (below_step HB.out hb); have n2_ := Aside0.mk (blk_below BK.out hb); clear HB hb BK hd; have HB := n1_; have BK := n2_; clear n1_ n2_))
          go_ret3
          exact ⟨_, rfl, Kd.R_nil _ _ _ _ _, HB.out⟩
      · rw [if_neg (fun h => h2 h.2.2.1)] at h
        cases h
        have HIN2 : Aside0 (impl_in.f a2 0 ((l0_0.length : Int) - 1) = some false) := ⟨by rw [in_impl, decide_eq_false (by omega)]⟩
        clear h1 h2
        go_enter Try.func38, Try.ntmps38
        go_wp2_with (first
          | ((with_reducible refine gate_dst (N := 3) rfl ?_); refine box_event ?hg (N := 3) ?hd (cs := #[.slice A0_0 l0_0.length c0_0]) (t := 44) ?hr ?_; (case hd => rfl); (case hg => rfl); (case hr => first | (go_simp; done) | (go_simp; rfl)); intro gb hg w2 hbox hb; have n1_ := Aside0.mk (below_step HB.out hb); have n2_ := Aside0.mk hbox; clear HB hb hbox hg; have HB := n1_; have BK := n2_; clear n1_ n2_; have hcz := (blk_cell BK.out 0).trans rfl)
          | (go_at_call 54; (with_reducible refine (impl_ValidBundle.calls 300 _ _ l0_0 true _ ?s4a ?s4b hv.out).mono ?_); (case s4a => exact Kd.C_below HR.out HB.out); (case s4b => exact HC.out); rintro e w3 ⟨rfl, hb⟩; have n1_ := Aside0.mk (below_step HB.out hb); have n2_ := Aside0.mk (blk_below BK.out hb); clear HB hb BK hcz; have HB := n1_; have BK := n2_; clear n1_ n2_)
          | (go_at_call 64; (with_reducible refine (impl_in.calls a1 0 ((l0_0.length : Int) - 1) true _ HIN1.out).mono ?_); rintro e w4 ⟨rfl, hd⟩; have hb := hd.below; have n1_ := Aside0.mk (below_step HB.out hb); have n2_ := Aside0.mk (blk_below BK.out hb); clear HB hb BK hd; have HB := n1_; have BK := n2_; clear n1_ n2_)
          | (go_at_call 64; (with_reducible refine (impl_in.calls a2 0 ((l0_0.length : Int) - 1) false _ HIN2.out).mono ?_); rintro e w4b ⟨rfl, hd⟩; have hb := hd.below; have n1_ := Aside0.mk (below_step HB.out hb); have n2_ := Aside0.mk (blk_below BK.out hb); clear HB hb BK hd; have HB := n1_; have BK := n2_; clear n1_ n2_))
        go_ret3
        exact ⟨_, rfl, Kd.R_nil _ _ _ _ _, HB.out⟩
    · rw [if_neg (fun h => h1 h.2.1)] at h
      cases h
      have HIN1 : Aside0 (impl_in.f a1 0 ((l0_0.length : Int) - 1) = some false) := ⟨by rw [in_impl, decide_eq_false (by omega)]⟩
      clear h1
      go_enter Try.func38, Try.ntmps38
      go_wp2_with (first
        | ((with_reducible refine gate_dst (N := 3) rfl ?_); refine box_event ?hg (N := 3) ?hd (cs := #[.slice A0_0 l0_0.length c0_0]) (t := 44) ?hr ?_; (case hd => rfl); (case hg => rfl); (case hr => first | (go_simp; done) | (go_simp; rfl)); intro gb hg w2 hbox hb; have n1_ := Aside0.mk (below_step HB.out hb); have n2_ := Aside0.mk hbox; clear HB hb hbox hg; have HB := n1_; have BK := n2_; clear n1_ n2_; have hcz := (blk_cell BK.out 0).trans rfl)
        | (go_at_call 54; (with_reducible refine (impl_ValidBundle.calls 300 _ _ l0_0 true _ ?s5a ?s5b hv.out).mono ?_); (case s5a => exact Kd.C_below HR.out HB.out); (case s5b => exact HC.out); rintro e w3 ⟨rfl, hb⟩; have n1_ := Aside0.mk (below_step HB.out hb); have n2_ := Aside0.mk (blk_below BK.out hb); clear HB hb BK hcz; have HB := n1_; have BK := n2_; clear n1_ n2_)
        | (go_at_call 64; (with_reducible refine (impl_in.calls a1 0 ((l0_0.length : Int) - 1) false _ HIN1.out).mono ?_); rintro e w4 ⟨rfl, hd⟩; have hb := hd.below; have n1_ := Aside0.mk (below_step HB.out hb); have n2_ := Aside0.mk (blk_below BK.out hb); clear HB hb BK hd; have HB := n1_; have BK := n2_; clear n1_ n2_))
      go_ret3
      exact ⟨_, rfl, Kd.R_nil _ _ _ _ _, HB.out⟩
end Go.Proofs.Ytaapbnhggfmlpaa.P
end
