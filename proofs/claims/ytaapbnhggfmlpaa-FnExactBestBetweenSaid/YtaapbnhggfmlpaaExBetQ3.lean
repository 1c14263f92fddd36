/- Lemmas and contracts of functions, part 3 of 9, for this law: The law FnExactBestBetween holds for every input. -/
import Derived.Test.YtaapbnhggfmlpaaExBetQ2
import Derived.StillTailTactics
import Derived.Outline
import Derived.Handy
import Derived.IntWalk
import Derived.Test.YtaapbnhggfmlpaaExBetQ1
section
set_option linter.unusedVariables false
set_option linter.unusedSimpArgs false
namespace Go.Proofs.Ytaapbnhggfmlpaa.P
open Go.RowKit Go.Proofs.YtaapbnhggfmlpaaW.PrintWords Go.Proofs.YtaapbnhggfmlpaaW.PrintLast Go.Proofs.YtaapbnhggfmlpaaW.PrintMore
open Go.Proofs.Ytaapbnhggfmlpaa.M Go.Proofs.Ytaapbnhggfmlpaa.A
set_option maxHeartbeats 2000000 in
set_option maxRecDepth 100000 in
theorem left_ (w0 : World) (gp gb gm : Nat) (A : Option Addr) (c : Nat) (l : List (List Int)) (fin : Int) (hn : l.length ≤ 9) (hrow : ∀ j : Nat, j < l.length → (rd_Ls2 l j).length = l.length) :
    ∀ (k : Nat) (t : T3) (w : World), tcnt l.length t < k → Tk l.length t → PW w0 gp gb gm A c l fin w → Mem l fin gm w →
      Calls Try.prog 123 #[.pointer (some ⟨gp, 0, none⟩), t.v] w fun e w' => e = .returned (.int .i64 (lf l fin t)) ∧ Mem l fin gm w' ∧ Fr (· = gm) w w' := by
  intro k
  induction k with
  | zero => exact fun t w h => absurd h (by omega)
  | succ k ih =>
    intro t w hk hT hW hM
    have IH := Aside0.mk ih
    have HK := Aside0.mk hk
    have HT := Aside0.mk hT
    have HW := Aside0.mk hW
    have HM := Aside0.mk hM
    have HROW := Aside0.mk hrow
    clear ih hk hT hW hM hrow
    have hu150 := Try.underlying150
    have hu147 := Try.underlying147
    have hu113 := Try.underlying113
    have hu44 := Try.underlying44
    obtain ⟨d, tl0, ts⟩ := t
    obtain ⟨tl, htl, hts, rfl⟩ : ∃ tl : Nat, tl < l.length ∧ (0 ≤ ts ∧ ts ≤ 9) ∧ tl0 = (tl : Int) := by
      obtain ⟨D, L, S, e, h1, h2, h3⟩ := HT.out
      cases e
      exact ⟨L, h2, by omega, rfl⟩
    obtain ⟨hts0, hts9⟩ := hts
    go_enter Try.func123, Try.ntmps123
    go_wp2_with (first
      | ((with_reducible refine gate_dst (N := 2) rfl ?_); refine box_event ?hg (N := 2) ?hd (cs := #[.pointer (some ⟨gp, 0, none⟩)]) (t := 147) ?hr ?_; (case hd => rfl); (case hg => rfl); (case hr => first | (go_simp; done) | (go_simp; rfl)); intro g1 hg w2 hbox hb; have NE := Aside0.mk (show g1 ≠ gm from fun e => by have := HM.out.lt; omega); have GE1 := Aside0.mk (show w.heap.size ≤ g1 by omega); have HFR := Aside0.mk (Fr.of_below (F := (· = gm)) hb); have H1 := Aside0.mk hbox; have n3_ := Aside0.mk (HW.out.below hb); have n4_ := Aside0.mk (HM.out.below hb); clear HW HM hg hbox hb; have HW := n3_; have HM := n4_; clear n3_ n4_)
      | ((with_reducible refine gate_dst (N := 3) rfl ?_); refine box_event ?hg (N := 3) ?hd (cs := #[.int .i64 d, .int .i64 tl, .int .i64 ts]) (t := 150) ?hr ?_; (case hd => rfl); (case hg => rfl); (case hr => first | (go_simp; done) | (go_simp; rfl)); intro gt hg w3 hbox hb; have NET := Aside0.mk (show gt ≠ gm from fun e => by have := HM.out.lt; omega); have n5_ := Aside0.mk (HFR.out.trans (Fr.of_below (F := (· = gm)) hb)); have n1_ := Aside0.mk (blk_below H1.out hb); have H2 := Aside0.mk hbox; have n3_ := Aside0.mk (HW.out.below hb); have n4_ := Aside0.mk (HM.out.below hb); clear H1 HFR HW HM hg hb hbox; have H1 := n1_; have HFR := n5_; have HW := n3_; have HM := n4_; clear n1_ n3_ n4_ n5_))
    obtain ⟨hc0, hc1, hc2, hd0, hd1, hd2⟩ := Rd.mk_ HW.out.pl H2.out
    have hc3 : w3.cell? ⟨gp, 2, none⟩ = some (.map (some gm)) := (blk_cell HW.out.p 2).trans rfl
    have hg1 := (blk_cell H1.out 0).trans rfl
    go_quiet (fail)
    go_wp2
    · have hfull : d = full l.length := by
        have h : (d == wrap64 (wrap64 (2 ^ l.length) - 1)) = true := by assumption
        simpa [full] using h
      have hE := Aside0.mk (lf_full (l := l) (fin := fin) (t := ⟨d, tl, ts⟩) hfull)
      clear hfull
      by_cases hs : 0 < ts
      · have hsb : decide (0 < ts) = true := decide_eq_true hs
        go_quiet (fail)
        go_wp2
        first | go_ret | go_ret2
        have e := hE.out.trans (if_pos (.inl hs))
        rw [e]
        exact ⟨rfl, HM.out.below (by repeat first | exact Below.refl _ _ | refine pw_below_drewN ?_ _ | refine Below.drew ?_), HFR.out.trans (Fr.of_below (by repeat first | exact Below.refl _ _ | refine pw_below_drewN ?_ _ | refine Below.drew ?_))⟩
      · have hsb : decide (0 < ts) = false := decide_eq_false hs
        by_cases hf : 0 ≤ fin
        · have hfb : decide (0 ≤ fin) = true := decide_eq_true hf
          go_quiet (fail)
          go_wp2
          · have hne : ((tl : Int) != fin) = true := by assumption
            first | go_ret | go_ret2
            have e := hE.out.trans (if_pos (.inr ⟨hf, by simpa using hne⟩))
            rw [e]
            exact ⟨rfl, HM.out.below (by repeat first | exact Below.refl _ _ | refine pw_below_drewN ?_ _ | refine Below.drew ?_), HFR.out.trans (Fr.of_below (by repeat first | exact Below.refl _ _ | refine pw_below_drewN ?_ _ | refine Below.drew ?_))⟩
          · have hne : ((tl : Int) != fin) = false := by assumption
            first | go_ret | go_ret2
            have e := hE.out.trans (if_neg (by
              rintro (h | ⟨_, h⟩)
              · simp only at h; omega
              · exact h (by simpa using hne)))
            rw [e]
            exact ⟨rfl, HM.out.below (by repeat first | exact Below.refl _ _ | refine pw_below_drewN ?_ _ | refine Below.drew ?_), HFR.out.trans (Fr.of_below (by repeat first | exact Below.refl _ _ | refine pw_below_drewN ?_ _ | refine Below.drew ?_))⟩
        · have hfb : decide (0 ≤ fin) = false := decide_eq_false hf
          go_quiet (fail)
          go_wp2
          first | go_ret | go_ret2
          have e := hE.out.trans (if_neg (by rintro (h | ⟨h, _⟩) <;> (try simp only at h) <;> omega))
          rw [e]
          exact ⟨rfl, HM.out.below (by repeat first | exact Below.refl _ _ | refine pw_below_drewN ?_ _ | refine Below.drew ?_), HFR.out.trans (Fr.of_below (by repeat first | exact Below.refl _ _ | refine pw_below_drewN ?_ _ | refine Below.drew ?_))⟩
    · have hnf : d ≠ full l.length := by
        have h : (d == wrap64 (wrap64 (2 ^ l.length) - 1)) = false := by assumption
        simpa [full] using h
      obtain ⟨ks, tb, hnd, hks, hkt, hTM⟩ := HM.out
      cases htb : tb ⟨d, tl, ts⟩ with
      | some v =>
        have hlk : ∀ m, (Instr.lookup 111 (.map (some gm)) (.agg #[.int .i64 d, .int .i64 tl, .int .i64 ts]) true).run Try.prog (w3.drewN m).drew = .ok (.tuple #[.int .i64 v, .bool true]) (w3.drewN m).drew := by
          intro m
          have h := (hTM.drewN m).drew.look (HT.out.ok hn)
          rw [htb] at h
          exact h
        refine start_ (n := 11) (S := fun w' => w'.cell? ⟨g1, 0, none⟩ = some (.pointer (some ⟨gp, 0, none⟩)) ∧ w'.cell? ⟨gp, 2, none⟩ = some (.map (some gm)) ∧ w'.cell? ⟨gt, 0, none⟩ = some (.int .i64 d) ∧ w'.cell? ⟨gt, 1, none⟩ = some (.int .i64 tl) ∧ w'.cell? ⟨gt, 2, none⟩ = some (.int .i64 ts) ∧ (Instr.lookup 111 (.map (some gm)) (.agg #[.int .i64 d, .int .i64 tl, .int .i64 ts]) true).run Try.prog w' = .ok (.tuple #[.int .i64 v, .bool true]) w') (ds := []) #[false, false, false, false, false, false, false, false, false, false, false] (by kernel_rfl) rfl rfl ⟨hg1, hc3, hd0, hd1, hd2, hlk _⟩ (fun hHeld => ?_)
        refine take_ (i := 0) (N := some 41) (v := ?_) (a' := ?_) #[true, false, false, false, false, false, false, false, false, false, false] rfl rfl (by kernel_rfl) (fun _ _ _ h => h) (Or.inl ⟨by rfl, ?_⟩) hHeld ?_ ?_
        rotate_left
        · rintro w' ⟨s0, s1, s2, s3, s4, s5⟩
          go_simp
          with_reducible rfl
        rotate_left
        · simp only [Act.put, List.setIfInBounds_toArray, List.set_cons_zero, List.set_cons_succ, i64_w, i32_w]
          rfl
        refine pure_ (i := 1) (N := some 42) (v := ?_) (a' := ?_) #[true, true, false, false, false, false, false, false, false, false, false] rfl rfl (by kernel_rfl) (fun _ _ _ h => h) (Or.inl ⟨by rfl, ?_⟩) ?_ ?_
        rotate_left
        · intro w'
          go_simp
          with_reducible rfl
        rotate_left
        · simp only [Act.put, List.setIfInBounds_toArray, List.set_cons_zero, List.set_cons_succ, i64_w, i32_w]
          rfl
        refine pure_ (i := 2) (N := some 43) (v := ?_) (a' := ?_) #[true, true, true, false, false, false, false, false, false, false, false] rfl rfl (by kernel_rfl) (fun _ _ _ h => h) (Or.inl ⟨by rfl, ?_⟩) ?_ ?_
        rotate_left
        · intro w'
          go_simp
          with_reducible rfl
        rotate_left
        · simp only [Act.put, List.setIfInBounds_toArray, List.set_cons_zero, List.set_cons_succ, i64_w, i32_w]
          rfl
        refine take_ (i := 3) (N := some 44) (v := ?_) (a' := ?_) #[true, true, true, true, false, false, false, false, false, false, false] rfl rfl (by kernel_rfl) (fun _ _ _ h => h) (Or.inl ⟨by rfl, ?_⟩) hHeld ?_ ?_
        rotate_left
        · rintro w' ⟨s0, s1, s2, s3, s4, s5⟩
          go_simp
          with_reducible rfl
        rotate_left
        · simp only [Act.put, List.setIfInBounds_toArray, List.set_cons_zero, List.set_cons_succ, i64_w, i32_w]
          rfl
        refine take_ (i := 4) (N := some 45) (v := ?_) (a' := ?_) #[true, true, true, true, true, false, false, false, false, false, false] rfl rfl (by kernel_rfl) (fun _ _ _ h => h) (Or.inl ⟨by rfl, ?_⟩) hHeld ?_ ?_
        rotate_left
        · rintro w' ⟨s0, s1, s2, s3, s4, s5⟩
          go_simp
          with_reducible rfl
        rotate_left
        · simp only [Act.put, List.setIfInBounds_toArray, List.set_cons_zero, List.set_cons_succ, i64_w, i32_w]
          rfl
        refine take_ (i := 5) (N := some 46) (v := ?_) (a' := ?_) #[true, true, true, true, true, true, false, false, false, false, false] rfl rfl (by kernel_rfl) (fun _ _ _ h => h) (Or.inl ⟨by rfl, ?_⟩) hHeld ?_ ?_
        rotate_left
        · rintro w' ⟨s0, s1, s2, s3, s4, s5⟩
          go_simp
          with_reducible rfl
        rotate_left
        · simp only [Act.put, List.setIfInBounds_toArray, List.set_cons_zero, List.set_cons_succ, i64_w, i32_w]
          rfl
        refine pure_ (i := 6) (N := some 40) (v := ?_) (a' := ?_) #[true, true, true, true, true, true, true, false, false, false, false] rfl rfl (by kernel_rfl) (fun _ _ _ h => h) (Or.inl ⟨by rfl, ?_⟩) ?_ ?_
        rotate_left
        · intro w'
          go_simp
          with_reducible rfl
        rotate_left
        · simp only [Act.put, List.setIfInBounds_toArray, List.set_cons_zero, List.set_cons_succ, i64_w, i32_w]
          rfl
        refine pure_ (i := 7) (N := some 47) (v := ?_) (a' := ?_) #[true, true, true, true, true, true, true, true, false, false, false] rfl rfl (by kernel_rfl) (fun _ _ _ h => h) (Or.inl ⟨by rfl, ?_⟩) ?_ ?_
        rotate_left
        · intro w'
          go_simp
          with_reducible rfl
        rotate_left
        · simp only [Act.put, List.setIfInBounds_toArray, List.set_cons_zero, List.set_cons_succ, i64_w, i32_w]
          rfl
        refine pure_ (i := 8) (N := some 48) (v := ?_) (a' := ?_) #[true, true, true, true, true, true, true, true, true, false, false] rfl rfl (by kernel_rfl) (fun _ _ _ h => h) (Or.inl ⟨by rfl, ?_⟩) ?_ ?_
        rotate_left
        · intro w'
          go_simp
          with_reducible rfl
        rotate_left
        · simp only [Act.put, List.setIfInBounds_toArray, List.set_cons_zero, List.set_cons_succ, i64_w, i32_w]
          rfl
        refine pure_ (i := 9) (N := some 5) (v := ?_) (a' := ?_) #[true, true, true, true, true, true, true, true, true, true, false] rfl rfl (by kernel_rfl) (fun _ _ _ h => h) (Or.inl ⟨by rfl, ?_⟩) ?_ ?_
        rotate_left
        · intro w'
          go_simp
          with_reducible rfl
        rotate_left
        · simp only [Act.put, List.setIfInBounds_toArray, List.set_cons_zero, List.set_cons_succ, i64_w, i32_w]
          rfl
        refine pure_ (i := 10) (N := some 6) (v := ?_) (a' := ?_) #[true, true, true, true, true, true, true, true, true, true, true] rfl rfl (by kernel_rfl) (fun _ _ _ h => h) (Or.inl ⟨by rfl, ?_⟩) ?_ ?_
        rotate_left
        · intro w'
          go_simp
          with_reducible rfl
        rotate_left
        · simp only [Act.put, List.setIfInBounds_toArray, List.set_cons_zero, List.set_cons_succ, i64_w, i32_w]
          rfl
        refine done_ (by kernel_rfl) ?_

        go_wp2
        first | go_ret | go_ret2
        have e : v = lf l fin ⟨d, tl, ts⟩ := by
          have hmem : (⟨d, tl, ts⟩ : T3) ∈ ks := by
            by_cases hm : (⟨d, tl, ts⟩ : T3) ∈ ks
            · exact hm
            · exact absurd ((hks _).2 hm) (by rw [htb]; simp)
          have h := (hkt _ hmem).2
          rw [htb] at h
          exact Option.some.inj h
        rw [e]
        exact ⟨rfl, HM.out.below (by repeat first | exact Below.refl _ _ | refine pw_below_drewN ?_ _ | refine Below.drew ?_), HFR.out.trans (Fr.of_below (by repeat first | exact Below.refl _ _ | refine pw_below_drewN ?_ _ | refine Below.drew ?_))⟩
      | none =>
        have hlk : ∀ m, (Instr.lookup 111 (.map (some gm)) (.agg #[.int .i64 d, .int .i64 tl, .int .i64 ts]) true).run Try.prog (w3.drewN m).drew = .ok (.tuple #[.int .i64 0, .bool false]) (w3.drewN m).drew := by
          intro m
          have h := (hTM.drewN m).drew.look (HT.out.ok hn)
          rw [htb] at h
          exact h
        refine start_ (n := 11) (S := fun w' => w'.cell? ⟨g1, 0, none⟩ = some (.pointer (some ⟨gp, 0, none⟩)) ∧ w'.cell? ⟨gp, 2, none⟩ = some (.map (some gm)) ∧ w'.cell? ⟨gt, 0, none⟩ = some (.int .i64 d) ∧ w'.cell? ⟨gt, 1, none⟩ = some (.int .i64 tl) ∧ w'.cell? ⟨gt, 2, none⟩ = some (.int .i64 ts) ∧ (Instr.lookup 111 (.map (some gm)) (.agg #[.int .i64 d, .int .i64 tl, .int .i64 ts]) true).run Try.prog w' = .ok (.tuple #[.int .i64 0, .bool false]) w') (ds := []) #[false, false, false, false, false, false, false, false, false, false, false] (by kernel_rfl) rfl rfl ⟨hg1, hc3, hd0, hd1, hd2, hlk _⟩ (fun hHeld => ?_)
        refine take_ (i := 0) (N := some 41) (v := ?_) (a' := ?_) #[true, false, false, false, false, false, false, false, false, false, false] rfl rfl (by kernel_rfl) (fun _ _ _ h => h) (Or.inl ⟨by rfl, ?_⟩) hHeld ?_ ?_
        rotate_left
        · rintro w' ⟨s0, s1, s2, s3, s4, s5⟩
          go_simp
          with_reducible rfl
        rotate_left
        · simp only [Act.put, List.setIfInBounds_toArray, List.set_cons_zero, List.set_cons_succ, i64_w, i32_w]
          rfl
        refine pure_ (i := 1) (N := some 42) (v := ?_) (a' := ?_) #[true, true, false, false, false, false, false, false, false, false, false] rfl rfl (by kernel_rfl) (fun _ _ _ h => h) (Or.inl ⟨by rfl, ?_⟩) ?_ ?_
        rotate_left
        · intro w'
          go_simp
          with_reducible rfl
        rotate_left
        · simp only [Act.put, List.setIfInBounds_toArray, List.set_cons_zero, List.set_cons_succ, i64_w, i32_w]
          rfl
        refine pure_ (i := 2) (N := some 43) (v := ?_) (a' := ?_) #[true, true, true, false, false, false, false, false, false, false, false] rfl rfl (by kernel_rfl) (fun _ _ _ h => h) (Or.inl ⟨by rfl, ?_⟩) ?_ ?_
        rotate_left
        · intro w'
          go_simp
          with_reducible rfl
        rotate_left
        · simp only [Act.put, List.setIfInBounds_toArray, List.set_cons_zero, List.set_cons_succ, i64_w, i32_w]
          rfl
        refine take_ (i := 3) (N := some 44) (v := ?_) (a' := ?_) #[true, true, true, true, false, false, false, false, false, false, false] rfl rfl (by kernel_rfl) (fun _ _ _ h => h) (Or.inl ⟨by rfl, ?_⟩) hHeld ?_ ?_
        rotate_left
        · rintro w' ⟨s0, s1, s2, s3, s4, s5⟩
          go_simp
          with_reducible rfl
        rotate_left
        · simp only [Act.put, List.setIfInBounds_toArray, List.set_cons_zero, List.set_cons_succ, i64_w, i32_w]
          rfl
        refine take_ (i := 4) (N := some 45) (v := ?_) (a' := ?_) #[true, true, true, true, true, false, false, false, false, false, false] rfl rfl (by kernel_rfl) (fun _ _ _ h => h) (Or.inl ⟨by rfl, ?_⟩) hHeld ?_ ?_
        rotate_left
        · rintro w' ⟨s0, s1, s2, s3, s4, s5⟩
          go_simp
          with_reducible rfl
        rotate_left
        · simp only [Act.put, List.setIfInBounds_toArray, List.set_cons_zero, List.set_cons_succ, i64_w, i32_w]
          rfl
        refine take_ (i := 5) (N := some 46) (v := ?_) (a' := ?_) #[true, true, true, true, true, true, false, false, false, false, false] rfl rfl (by kernel_rfl) (fun _ _ _ h => h) (Or.inl ⟨by rfl, ?_⟩) hHeld ?_ ?_
        rotate_left
        · rintro w' ⟨s0, s1, s2, s3, s4, s5⟩
          go_simp
          with_reducible rfl
        rotate_left
        · simp only [Act.put, List.setIfInBounds_toArray, List.set_cons_zero, List.set_cons_succ, i64_w, i32_w]
          rfl
        refine pure_ (i := 6) (N := some 40) (v := ?_) (a' := ?_) #[true, true, true, true, true, true, true, false, false, false, false] rfl rfl (by kernel_rfl) (fun _ _ _ h => h) (Or.inl ⟨by rfl, ?_⟩) ?_ ?_
        rotate_left
        · intro w'
          go_simp
          with_reducible rfl
        rotate_left
        · simp only [Act.put, List.setIfInBounds_toArray, List.set_cons_zero, List.set_cons_succ, i64_w, i32_w]
          rfl
        refine pure_ (i := 7) (N := some 47) (v := ?_) (a' := ?_) #[true, true, true, true, true, true, true, true, false, false, false] rfl rfl (by kernel_rfl) (fun _ _ _ h => h) (Or.inl ⟨by rfl, ?_⟩) ?_ ?_
        rotate_left
        · intro w'
          go_simp
          with_reducible rfl
        rotate_left
        · simp only [Act.put, List.setIfInBounds_toArray, List.set_cons_zero, List.set_cons_succ, i64_w, i32_w]
          rfl
        refine pure_ (i := 8) (N := some 48) (v := ?_) (a' := ?_) #[true, true, true, true, true, true, true, true, true, false, false] rfl rfl (by kernel_rfl) (fun _ _ _ h => h) (Or.inl ⟨by rfl, ?_⟩) ?_ ?_
        rotate_left
        · intro w'
          go_simp
          with_reducible rfl
        rotate_left
        · simp only [Act.put, List.setIfInBounds_toArray, List.set_cons_zero, List.set_cons_succ, i64_w, i32_w]
          rfl
        refine pure_ (i := 9) (N := some 5) (v := ?_) (a' := ?_) #[true, true, true, true, true, true, true, true, true, true, false] rfl rfl (by kernel_rfl) (fun _ _ _ h => h) (Or.inl ⟨by rfl, ?_⟩) ?_ ?_
        rotate_left
        · intro w'
          go_simp
          with_reducible rfl
        rotate_left
        · simp only [Act.put, List.setIfInBounds_toArray, List.set_cons_zero, List.set_cons_succ, i64_w, i32_w]
          rfl
        refine pure_ (i := 10) (N := some 6) (v := ?_) (a' := ?_) #[true, true, true, true, true, true, true, true, true, true, true] rfl rfl (by kernel_rfl) (fun _ _ _ h => h) (Or.inl ⟨by rfl, ?_⟩) ?_ ?_
        rotate_left
        · intro w'
          go_simp
          with_reducible rfl
        rotate_left
        · simp only [Act.put, List.setIfInBounds_toArray, List.set_cons_zero, List.set_cons_succ, i64_w, i32_w]
          rfl
        refine done_ (by kernel_rfl) ?_

        clear hc0 hc1 hc2 hc3 hd0 hd1 hd2 hg1 hTM hks hkt hnd hlk htb
        go_wp2_with (first
          | ((with_reducible refine gate_dst (N := 7) rfl ?_); refine box_event ?hg (N := 7) ?hd (cs := #[.int .i64 0]) (t := 2) ?hr ?_; (case hd => rfl); (case hg => rfl); (case hr => first | (go_simp; done) | (go_simp; rfl)); intro g7 hg w4 hbox hb0; have hb : Below w3.heap.size w3 w4 := Below.trans (B := w3.heap.size) (by repeat first | exact Below.refl _ _ | refine pw_below_drewN ?_ _ | refine Below.drew ?_) hb0; clear hb0; have hg_ : g7 = w3.heap.size := hg; have NE7 := Aside0.mk (show g7 ≠ gm from fun e => by have := HM.out.lt; omega); have GE7 := Aside0.mk (show w.heap.size ≤ g7 by have := HFR.out.size; omega); have GZ7 := Aside0.mk (show w0.heap.size ≤ g7 by have := HW.out.bl.size; omega);
             have NGP := Aside0.mk (show gp ≠ g7 from fun e => by have := blk_lt HW.out.p; omega); have NGB := Aside0.mk (show gb ≠ g7 from fun e => by have := blk_lt HW.out.b; omega); have NG1 := Aside0.mk (show g1 ≠ g7 from fun e => by have := blk_lt H1.out; omega); have NGT := Aside0.mk (show gt ≠ g7 from fun e => by have := blk_lt H2.out; omega); clear hg_;
             have n5_ := Aside0.mk (HFR.out.trans (Fr.of_below (F := (· = gm)) hb)); have n1_ := Aside0.mk (blk_below H1.out hb); have n2_ := Aside0.mk (blk_below H2.out hb); have H7 := Aside0.mk hbox; have n3_ := Aside0.mk (HW.out.below hb); have n4_ := Aside0.mk (HM.out.below hb); clear H1 H2 HFR HW HM hg hb hbox; have H1 := n1_; have H2 := n2_; have HFR := n5_; have HW := n3_; have HM := n4_; clear n1_ n2_ n3_ n4_ n5_; have hg7 := (blk_cell H7.out 0).trans rfl; have hf7 := blk_frozen H7.out 0)
          | ((with_reducible refine gate_store (t := 2) (p := 7) rfl ?_); refine store_event (t := 2) (p := 7) (v := ?vo) (w1 := w4.setCell ⟨g7, 0, none⟩ (.int .i64 (-1))) ?hg ?ho ?hn ?hr ?_; (case ho => rfl); (case hg => rfl); (case hn => rfl); (case hr => first | (go_simp; done) | (go_simp; rfl)); intro w5 hw; clear hg7 hf7;
             have hFs : Fr (· = g7) w4 w5 := (by rw [hw]; exact Fr.set_ (F := (· = g7)) (Fr.refl _ _) (Eq.refl g7) _); have n7_ := Aside0.mk (show w5.heap[g7]? = some (.cells #[.int .i64 (-1)] 2 (0, 0)) by rw [hw]; exact blk_put H7.out 0 _ rfl);
             have n1_ := Aside0.mk (hFs.blk H1.out NG1.out); have n2_ := Aside0.mk (hFs.blk H2.out NGT.out); have n3_ := Aside0.mk (HW.out.fr hFs (fun k e => by rw [e]; exact GZ7.out) NGP.out NGB.out); have n4_ := Aside0.mk (HM.out.fr hFs (fun e => NE7.out e.symm)); have n5_ := Aside0.mk (Fr.then_ HFR.out hFs (fun i e => .inr (by rw [e]; exact GE7.out)));
             clear H1 H2 HFR HW HM H7 hw hFs; have H1 := n1_; have H2 := n2_; have HFR := n5_; have HW := n3_; have HM := n4_; have H7 := n7_; clear n1_ n2_ n3_ n4_ n5_ n7_; have hg1 := (blk_cell H1.out 0).trans rfl; have hd0 := (blk_cell H2.out 0).trans rfl; have hd1 := (blk_cell H2.out 1).trans rfl; have hd2 := (blk_cell H2.out 2).trans rfl)
          | (go_at_call 124; (with_reducible refine (choices_ Try.func151 (by kernel_rfl) rfl #[.pointer (some ⟨g1, 0, none⟩), .pointer (some ⟨g7, 0, none⟩)] gp gb gm A c l fin d ts tl w5
                (fun pre w' => PW w0 gp gb gm A c l fin w' ∧ Mem l fin gm w' ∧ w'.heap[g1]? = some (.cells #[.pointer (some ⟨gp, 0, none⟩)] 147 (0, 0)) ∧ w'.heap[g7]? = some (.cells #[.int .i64 (pre.foldl (stepF (lf l fin)) (-1))] 2 (0, 0))) (fun k => k = gm ∨ k = g7) ?q1 ?q2 ?q3 ?q4 ?q5 ?q6 ?q7 ?q8 ?q9).mono ?_);
             (case q1 => exact hn); (case q2 => exact htl); (case q3 => exact ⟨hts0, hts9⟩); (case q4 => exact HROW.out); (case q5 => exact ⟨HW.out, HM.out, H1.out, H7.out⟩); (case q6 => exact fun pre w' h => h.1.pl); (case q7 => exact fun pre w1 w2 h hb => ⟨h.1.below hb, h.2.1.below hb, blk_below h.2.2.1 hb, blk_below h.2.2.2 hb⟩);
             (case q8 => rintro k (rfl | rfl); exact HM.out.lt; exact blk_lt H7.out);
             (case q9 =>
                intro pre x post w' hsp hI
                have hxo := itms_ok hn HT.out x (by rw [hsp]; simp)
                refine (left1_ w0 gp gb gm g1 g7 A c l fin _ x w' (fun w1 hW1 hM1 => IH.out x.t w1 (by have := HK.out; have := hxo.2.1; omega) hxo.1 hW1 hM1) hI.1 hI.2.1 hI.2.2.1 hI.2.2.2 NE.out NE7.out NG1.out GZ7.out (fun e => NGP.out e.symm) (fun e => NGB.out e.symm)).mono ?_
                rintro e w'' ⟨rfl, hM2, h72, hF2⟩
                exact ⟨rfl, ⟨hI.1.fr hF2 (fun k hk => hk.elim (fun e => e ▸ HW.out.ge) (fun e => e ▸ GZ7.out)) (fun h => h.elim HW.out.np NGP.out) (fun h => h.elim HW.out.nb NGB.out), hM2, hF2.blk hI.2.2.1 (fun h => h.elim NE.out NG1.out), by rw [List.foldl_append]; exact h72⟩, hF2⟩);
             rintro e w6 ⟨rfl, ⟨hW6, hM6, h16, h76⟩, hF6⟩;
             have hE7 := (lf_eq (fin := fin) hn HT.out hnf).symm; rw [hE7] at h76; clear hE7;
             have HW6 := Aside0.mk hW6; have HM6 := Aside0.mk hM6; have H16 := Aside0.mk h16; have H76 := Aside0.mk h76; have HF6 := Aside0.mk hF6; have H26 := Aside0.mk (hF6.blk H2.out (fun h => h.elim NET.out NGT.out));
             clear hW6 hM6 h16 h76 hF6 hg1 hd0 hd1 hd2;
             have hg1 := (blk_cell H16.out 0).trans rfl; have hg7 := (blk_cell H76.out 0).trans rfl; have hd0 := (blk_cell H26.out 0).trans rfl; have hd1 := (blk_cell H26.out 1).trans rfl; have hd2 := (blk_cell H26.out 2).trans rfl; have hc3 := (blk_cell HW6.out.p 2).trans rfl))
        obtain ⟨w7, hrun7, hM7, hF7⟩ := Mem.put (w := w6.drew) hn (HM6.out.below (by repeat first | exact Below.refl _ _ | refine pw_below_drewN ?_ _ | refine Below.drew ?_)) HT.out (lf_wf _ _ _)
        refine start_ (n := 7) (S := fun w' => w'.cell? ⟨g1, 0, none⟩ = some (.pointer (some ⟨gp, 0, none⟩)) ∧ w'.cell? ⟨gp, 2, none⟩ = some (.map (some gm)) ∧ w'.cell? ⟨gt, 0, none⟩ = some (.int .i64 d) ∧ w'.cell? ⟨gt, 1, none⟩ = some (.int .i64 tl) ∧ w'.cell? ⟨gt, 2, none⟩ = some (.int .i64 ts) ∧ w'.cell? ⟨g7, 0, none⟩ = some (.int .i64 (lf l fin ⟨d, tl, ts⟩))) (ds := [6]) #[false, false, false, false, false, false, false] (by kernel_rfl) rfl rfl ⟨hg1, hc3, hd0, hd1, hd2, hg7⟩ (fun hHeld => ?_)
        refine take_ (i := 0) (N := some 55) (v := ?_) (a' := ?_) #[true, false, false, false, false, false, false] rfl rfl (by kernel_rfl) (fun _ _ _ h => h) (Or.inl ⟨by rfl, ?_⟩) hHeld ?_ ?_
        rotate_left
        · rintro w' ⟨s0, s1, s2, s3, s4, s5⟩
          go_simp
          with_reducible rfl
        rotate_left
        · simp only [Act.put, List.setIfInBounds_toArray, List.set_cons_zero, List.set_cons_succ, i64_w, i32_w]
          rfl
        refine pure_ (i := 1) (N := some 56) (v := ?_) (a' := ?_) #[true, true, false, false, false, false, false] rfl rfl (by kernel_rfl) (fun _ _ _ h => h) (Or.inl ⟨by rfl, ?_⟩) ?_ ?_
        rotate_left
        · intro w'
          go_simp
          with_reducible rfl
        rotate_left
        · simp only [Act.put, List.setIfInBounds_toArray, List.set_cons_zero, List.set_cons_succ, i64_w, i32_w]
          rfl
        refine pure_ (i := 2) (N := some 57) (v := ?_) (a' := ?_) #[true, true, true, false, false, false, false] rfl rfl (by kernel_rfl) (fun _ _ _ h => h) (Or.inl ⟨by rfl, ?_⟩) ?_ ?_
        rotate_left
        · intro w'
          go_simp
          with_reducible rfl
        rotate_left
        · simp only [Act.put, List.setIfInBounds_toArray, List.set_cons_zero, List.set_cons_succ, i64_w, i32_w]
          rfl
        refine take_ (i := 3) (N := some 58) (v := ?_) (a' := ?_) #[true, true, true, true, false, false, false] rfl rfl (by kernel_rfl) (fun _ _ _ h => h) (Or.inl ⟨by rfl, ?_⟩) hHeld ?_ ?_
        rotate_left
        · rintro w' ⟨s0, s1, s2, s3, s4, s5⟩
          go_simp
          with_reducible rfl
        rotate_left
        · simp only [Act.put, List.setIfInBounds_toArray, List.set_cons_zero, List.set_cons_succ, i64_w, i32_w]
          rfl
        refine take_ (i := 4) (N := some 59) (v := ?_) (a' := ?_) #[true, true, true, true, true, false, false] rfl rfl (by kernel_rfl) (fun _ _ _ h => h) (Or.inl ⟨by rfl, ?_⟩) hHeld ?_ ?_
        rotate_left
        · rintro w' ⟨s0, s1, s2, s3, s4, s5⟩
          go_simp
          with_reducible rfl
        rotate_left
        · simp only [Act.put, List.setIfInBounds_toArray, List.set_cons_zero, List.set_cons_succ, i64_w, i32_w]
          rfl
        refine take_ (i := 5) (N := some 60) (v := ?_) (a' := ?_) #[true, true, true, true, true, true, false] rfl rfl (by kernel_rfl) (fun _ _ _ h => h) (Or.inl ⟨by rfl, ?_⟩) hHeld ?_ ?_
        rotate_left
        · rintro w' ⟨s0, s1, s2, s3, s4, s5⟩
          go_simp
          with_reducible rfl
        rotate_left
        · simp only [Act.put, List.setIfInBounds_toArray, List.set_cons_zero, List.set_cons_succ, i64_w, i32_w]
          rfl
        refine last_ (i := 6) (N := none) #[true, true, true, true, true, true, true] rfl rfl (by kernel_rfl) (by decide) (fun K hK => ?_)
        refine tput_ (b := gm) (tv := .agg #[.int .i64 d, .int .i64 tl, .int .i64 ts]) (yv := .int .i64 (lf l fin ⟨d, tl, ts⟩)) (by rfl) rfl rfl rfl rfl rfl hrun7 ?_
        refine hK.out _ _ ?_
        clear hK K
        refine done_ (by kernel_rfl) ?_

        clear hg7 hg1 hd0 hd1 hd2 hc3
        have H77 := Aside0.mk (hF7.blk (show w6.drew.heap[g7]? = _ from H76.out) NE7.out)
        have hg7 := (blk_cell H77.out 0).trans rfl
        go_wp2
        first | go_ret | go_ret2
        refine ⟨rfl, hM7, ?_⟩
        have h1 := Fr.then_ HFR.out HF6.out (fun i hi => hi.elim .inl (fun e => .inr (by rw [e]; exact GE7.out)))
        have h2 : Fr (· = gm) w6 w6.drew := Fr.of_below (by repeat first | exact Below.refl _ _ | refine pw_below_drewN ?_ _ | refine Below.drew ?_)
        exact (h1.trans h2).trans hF7
end Go.Proofs.Ytaapbnhggfmlpaa.P
end
section
set_option linter.unusedVariables false
namespace Go.Proofs.Ytaapbnhggfmlpaa.M
open Go.Maps Go.RowKit Go.ChangeMaps
theorem k3_inv (m : Nat) (hm : m ≠ 0) (a : Value) (ls : List Lit) (h : Try.prog.keyLits m 3 [a] = some ls) : ∃ x : Int, a = .int .i64 x ∧ (Lit.int .i64 x).wf = true ∧ ls = [.int .i64 x] := by
  have e3 : Try.prog.underlying 3 = some (.int .i64) := Try.underlying3
  obtain ⟨m, rfl⟩ := Nat.exists_eq_succ_of_ne_zero hm
  simp only [Program.keyLits, e3] at h
  cases a <;> simp at h
  obtain ⟨⟨rfl, hw⟩, rfl⟩ := h
  exact ⟨_, rfl, hw, rfl⟩
theorem key_inv {key : Value} {kl : Lit} (h : keyOf Try.prog 150 key = some kl) : ∃ t : T3, t.ok ∧ key = t.v ∧ kl = tk t := by
  have h0 := h
  have hs : Try.prog.types.size = Try.prog.types.size - 1 + 1 := by kernel_rfl
  have c3 : Try.prog.cellsOf 3 = 1 := by kernel_rfl
  have c150 : Try.prog.cellsOf 150 = 3 := by kernel_rfl
  unfold keyOf at h
  simp only [Try.underlying150, kt150, Bool.true_and] at h
  split at h
  · rename_i hf
    obtain ⟨ls, hls, rfl⟩ := Option.map_eq_some_iff.1 h
    cases key with
    | agg cs =>
      simp only [Value.formed, Try.underlying150, c150, beq_iff_eq] at hf
      obtain ⟨cs⟩ := cs
      have hl : cs.length = 3 := by simpa using hf
      obtain ⟨a, b, c, rfl⟩ : ∃ a b c, cs = [a, b, c] := by
        rcases cs with _ | ⟨a, _ | ⟨b, _ | ⟨c, _ | ⟨d, r⟩⟩⟩⟩
        · simp at hl
        · simp at hl
        · simp at hl
        · exact ⟨a, b, c, rfl⟩
        · simp at hl
      rw [hs] at hls
      simp only [Value.cells] at hls
      conv at hls => lhs; unfold Program.keyLits
      simp only [Try.underlying150] at hls
      rw [if_pos ⟨by rw [c150]; rfl, by kernel_rfl⟩] at hls
      simp [c3] at hls
      obtain ⟨mm, hmm⟩ : ∃ mm : Nat, mm = 203 := ⟨_, rfl⟩
      rw [← hmm] at hls
      have hm0 : mm ≠ 0 := by omega
      clear hmm
      obtain ⟨la, ha, h1⟩ := Option.bind_eq_some_iff.1 hls
      clear hls
      simp only [Function.comp, Option.map_eq_some_iff] at h1
      obtain ⟨ls', h2, rfl⟩ := h1
      obtain ⟨lb', h3, h4⟩ := Option.bind_eq_some_iff.1 h2
      obtain ⟨lb, hb, h5⟩ := Option.bind_eq_some_iff.1 h3
      obtain ⟨lc', h6, h7⟩ := Option.bind_eq_some_iff.1 h5
      obtain ⟨lc, hc, h8⟩ := Option.bind_eq_some_iff.1 h6
      obtain rfl := Option.some.inj h8
      obtain rfl := Option.some.inj h7
      obtain rfl := Option.some.inj h4
      obtain ⟨x, rfl, hx, rfl⟩ := k3_inv _ hm0 _ _ ha
      obtain ⟨y, rfl, hy, rfl⟩ := k3_inv _ hm0 _ _ hb
      obtain ⟨z, rfl, hz, rfl⟩ := k3_inv _ hm0 _ _ hc
      exact ⟨⟨x, y, z⟩, ⟨hx, hy, hz⟩, rfl, rfl⟩
    | _ => simp [Value.formed, Try.underlying150] at hf
  · cases h
open Go.MapKept in
theorem tm_clear {w : World} {b n : Nat} {f : T3 → Option Int} (h : TM w b n f) (ty : TypeId) : ∃ w', (Builtin.clear_ #[111] ty #[.map (some b)]).run Try.prog w = .ok (.tuple #[]) w' ∧ TM w' b 0 (fun _ => none) ∧ w.mapTurned w' b := by
  obtain ⟨D, ⟨es, clock, hb, r⟩, h1⟩ := h
  refine ⟨setBlock w b (.map #[] clock), ?_, ⟨.map [], ⟨#[], clock, heap_setBlock_same hb _, ⟨by simp, stamped_empty clock, by simp⟩, Nat.le_refl _, rfl⟩, fun t _ => ⟨by simp [Maps.has], by simp [DataW.atKey]⟩⟩, ⟨es, clock, #[], clock, hb, rfl⟩⟩
  have hlt : b < w.heap.size := (Array.getElem?_eq_some_iff.1 hb).1
  simp [Builtin.clear_, Go.run_underlying Try.underlying111, Go.MapKept.run_getObj_map hb, Go.MapKept.run_setObj_map _ hb, Result.andThen]
  rfl
theorem TM.ne_cells {w : World} {b n : Nat} {f : T3 → Option Int} (h : TM w b n f) {g : Nat} {t : TypeId} {cs : Array Value} {z : Nat × Nat} (hg : w.heap[g]? = some (.cells cs t z)) : g ≠ b := by
  rintro rfl
  obtain ⟨D, ⟨es, clock, hb, _⟩, _⟩ := h
  rw [hb] at hg
  cases hg
/-- A range over a map of tasks, under way: S are the tasks still to come. -/
def RG (w : World) (b r n : Nat) (f : T3 → Option Int) (S : T3 → Prop) (cnt : Nat) : Prop :=
  ∃ (D : DataW Unit) (left : Lit → Bool), w.ranges Try.prog 150 (plainElem Try.prog 2) b r n D left cnt ∧
    (∀ t, t.ok → Maps.has D (tk t) = (f t).isSome ∧ D.atKey (tk t) (.lit (.int .i64 0)) = .lit (.int .i64 ((f t).getD 0))) ∧ (∀ t, t.ok → (left (tk t) = true ↔ S t)) ∧ ∀ t, t.ok → S t → (f t).isSome = true
section
variable {w w' : World} {b r n cnt : Nat} {f : T3 → Option Int} {S : T3 → Prop}
theorem RG.tm (h : RG w b r n f S cnt) : TM w b n f := by
  obtain ⟨D, left, h, h1, _⟩ := h
  exact ⟨D, h.owns, h1⟩
theorem RG.left_eq (h : RG w b r n f S cnt) : w.rangeLeft b r = cnt := by
  obtain ⟨D, left, h, _⟩ := h
  exact h.left_eq
theorem RG.lt (h : RG w b r n f S cnt) : r < w.heap.size := by
  obtain ⟨D, left, h, _⟩ := h
  exact h.lt
theorem RG.ne (h : RG w b r n f S cnt) : r ≠ b := by
  obtain ⟨D, left, h, _⟩ := h
  exact h.ne
theorem RG.heap (h : RG w b r n f S cnt) (hb : w'.heap[b]? = w.heap[b]?) (hr : w'.heap[r]? = w.heap[r]?) : RG w' b r n f S cnt := by
  obtain ⟨D, left, ⟨es, clock, since, seen, c0, k1, F, k2, k3, k4, k5⟩, h1⟩ := h
  exact ⟨D, left, ⟨es, clock, since, seen, c0, hb.trans k1, F, k2, k3, hr.trans k4, k5⟩, h1⟩
theorem same_tk (t u : T3) (ht : t.ok) (hu : u.ok) : (tk t).sameKey (tk u) = decide (t = u) := by
  by_cases e : t = u
  · subst e
    simp [tk, Lit.sameKey]
  · have ne : tk t ≠ tk u := fun h => e (tk_inj ht hu h)
    have h2 : keyBytes [Lit.int .i64 t.d, Lit.int .i64 t.l, Lit.int .i64 t.s] ≠ keyBytes [Lit.int .i64 u.d, Lit.int .i64 u.l, Lit.int .i64 u.s] := fun h => ne (by unfold tk; rw [h])
    simp [tk, Lit.sameKey, e, h2]
end
section
variable (w : World) {ops : Array Oper} {rest : List Oper} {o : Oper} {a : Act} {Q : Exit → Act → World → Prop}
theorem wp_tclear (hg : o.guard = none) (m : Operand) (hop : o.op = Op.call { callee := Callee.builtin Builtin.clear, args := #[m], argTypes := #[111] }) (b n : Nat) (f : T3 → Option Int) (hm : a.eval m = .map (some b)) (h : TM w b n f)
    (hK : ∀ w', TM w' b 0 (fun _ => none) → w.grownBy w' (some b) → wpList Try.prog ops Q rest (a.put o.dst (.tuple #[])) w') : wpList Try.prog ops Q (o :: rest) a w := by
  refine wpList_plain hg fun K' hK' => ?_
  obtain ⟨w', hrun, r1, r2⟩ := tm_clear h o.type
  unfold Oper.wp
  simp [execOp, hop, resolve, invoke, builtin, hm, hrun, Result.andThen]
  exact hK' _ _ (hK w' r1 r2.grown)
theorem wp_trange (hg : o.guard = none) (m : Operand) (hop : o.op = Op.range 111 m) (b n : Nat) (f : T3 → Option Int) (hm : a.eval m = .map (some b)) (h : TM w b n f)
    (hK : ∀ (r cnt : Nat) w', r = w.heap.size → RG w' b r n f (fun t => (f t).isSome = true) cnt → Below w.heap.size w w' → wpList Try.prog ops Q rest (a.put o.dst (.pointer (some ⟨r, 0, none⟩))) w') :
    wpList Try.prog ops Q (o :: rest) a w := by
  obtain ⟨D, ho, h1⟩ := h
  refine wpList_range_own w hg m 111 hop 150 2 law150 Try.underlying111 (plainElem Try.prog 2) b n D hm ho ?_
  intro w' hr hgr hsz
  refine hK w.heap.size _ w' rfl ⟨D, _, hr, h1, fun t ht => by rw [(h1 t ht).1], fun t ht h => h⟩ ⟨hgr.os, hgr.tape, hgr.output, hgr.size, fun i hi => hgr.block i hi (by simp)⟩
theorem wp_tnext (hg : o.guard = none) (it : Operand) (hop : o.op = Op.next it false) (b r n cnt : Nat) (f : T3 → Option Int) (S : T3 → Prop) (hit : a.eval it = .pointer (some ⟨r, 0, none⟩)) (h : RG w b r n f S cnt)
    (hDone : (∀ t, t.ok → ¬ S t) → wpList Try.prog ops Q rest (a.put o.dst (.tuple #[.bool false])) w)
    (hMore : ∀ (t : T3) (v : Int) (w' : World) (cnt' : Nat), t.ok → S t → f t = some v → RG w' b r n f (fun u => S u ∧ u ≠ t) cnt' → cnt' < cnt → w.grownBy w' (some r) → w'.heap.size = w.heap.size →
      (Instr.entry (.pointer (some ⟨r, 0, none⟩))).run Try.prog w' = .ok (.tuple #[t.v, .int .i64 v]) w' → wpList Try.prog ops Q rest (a.put o.dst (.tuple #[.bool true, t.v, .int .i64 v])) w') :
    wpList Try.prog ops Q (o :: rest) a w := by
  obtain ⟨D, left, hr, h1, h2, h3⟩ := h
  refine wpList_next_ranges w hg it hop 150 law150 (plainElem Try.prog 2) T3.v (Value.int .i64) (fun key kl hkey => by obtain ⟨t, _, rfl, _⟩ := key_inv hkey; exact ⟨t, rfl⟩)
    (fun v y hv => by obtain ⟨c, rfl, _⟩ := plainElem_int_inv Try.underlying2 hv; exact ⟨c, rfl⟩) b r n D left cnt hit hr ?_ ?_
  · intro h0 hl
    exact hDone fun t ht hS => by
      have := (h2 t ht).2 hS
      rw [hl] at this
      cases this
  · intro t c kl y w' cnt' hkey hlk hv hat hrg hlt hgr hsz hen
    obtain ⟨t', ht', e, rfl⟩ := key_inv hkey
    have e' : t = t' := by cases t; cases t'; simp at e; simp [e]
    subst e'
    obtain ⟨c', e2, e3, hw⟩ := plainElem_int_inv Try.underlying2 hv
    cases e2
    have hS := (h2 t ht').1 hlk
    have hsome := h3 t ht' hS
    have hft : f t = some c := by
      obtain ⟨v, hv2⟩ := Option.isSome_iff_exists.1 hsome
      have h4 := (h1 t ht').2
      rw [hat, hv2, e3] at h4
      simp at h4
      rw [hv2, h4]
    refine hMore t c w' cnt' ht' hS hft ⟨D, _, hrg, h1, fun u hu => ?_, fun u hu hSu => h3 u hu hSu.1⟩ hlt hgr hsz hen
    rw [Bool.and_eq_true, h2 u hu, same_tk u t hu ht']
    simp
end
end Go.Proofs.Ytaapbnhggfmlpaa.M
end
section
set_option linter.unusedVariables false
namespace Go.Proofs.Ytaapbnhggfmlpaa.A
open Go.RowKit Go.Proofs.Ytaapbnhggfmlpaa.P Go.Proofs.YtaapbnhggfmlpaaW.PrintWords Go.Proofs.Ytaapbnhggfmlpaa.M
def kf (l : List (List Int)) (fin : Int) (ks : List T3) : T3 → Option Int := fun u => if u ∈ ks then some (lf l fin u) else none
def addK (ks : List T3) (t : T3) : List T3 := if t ∈ ks then ks else t :: ks
def baseK (s : Int × List T3) (x : Itm) : List T3 := if (x.w : Int) < s.1 then [] else s.2
def skipN (l : List (List Int)) (fin want : Int) (s : Int × List T3) (x : Itm) : Prop := s.1 < x.w ∨ lf l fin x.t < 0 ∨ wrap64 (lf l fin x.t + x.c) ≠ want
instance (l : List (List Int)) (fin want : Int) (s : Int × List T3) (x : Itm) : Decidable (skipN l fin want s x) := by unfold skipN; infer_instance
def stepN (l : List (List Int)) (fin want : Int) (s : Int × List T3) (x : Itm) : Int × List T3 :=
  if skipN l fin want s x then s else (x.w, addK (baseK s x) x.t)
theorem kf_add (l : List (List Int)) (fin : Int) (ks : List T3) (t : T3) : (fun u => if u = t then some (lf l fin t) else kf l fin ks u) = kf l fin (addK ks t) := by
  funext u
  unfold kf addK
  by_cases e : u = t
  · subst e
    by_cases h : u ∈ ks <;> simp [h]
  · by_cases h : t ∈ ks
    · simp [e, h]
    · simp [e, h]
theorem kf_nil (l : List (List Int)) (fin : Int) : (fun _ => none) = kf l fin [] := by
  funext u
  simp [kf]
theorem addK_nodup {ks : List T3} (h : ks.Nodup) (t : T3) : (addK ks t).Nodup := by
  unfold addK
  split
  · exact h
  · rename_i hn
    exact List.nodup_cons.2 ⟨hn, h⟩
theorem addK_tk {n : Nat} {ks : List T3} (h : ∀ u ∈ ks, Tk n u) {t : T3} (ht : Tk n t) : ∀ u ∈ addK ks t, Tk n u := by
  unfold addK
  split
  · exact h
  · intro u hu
    rcases List.mem_cons.1 hu with rfl | hu
    · exact ht
    · exact h u hu
theorem addK_len (l : List (List Int)) (fin : Int) (ks : List T3) (t : T3) : (kf l fin ks t).isSome = true ∧ ks.length ≤ (addK ks t).length ∨ ks.length + 1 ≤ (addK ks t).length := by
  unfold addK kf
  by_cases h : t ∈ ks <;> simp [h]
structure KOk (n : Nat) (ks : List T3) : Prop where
  nd : ks.Nodup
  tk : ∀ u ∈ ks, Tk n u
theorem KOk.nil (n : Nat) : KOk n [] := ⟨List.nodup_nil, fun u (h : u ∈ ([] : List T3)) => absurd h (by simp)⟩
theorem KOk.add {n : Nat} {ks : List T3} (h : KOk n ks) {t : T3} (ht : Tk n t) : KOk n (addK ks t) := ⟨addK_nodup h.nd t, addK_tk h.tk ht⟩
theorem KOk.base {n : Nat} {s : Int × List T3} (h : KOk n s.2) (x : Itm) : KOk n (baseK s x) := by
  unfold baseK
  split
  · exact KOk.nil n
  · exact h
theorem KOk.step {l : List (List Int)} {fin want : Int} {s : Int × List T3} (h : KOk l.length s.2) {x : Itm} (hx : Tk l.length x.t) : KOk l.length (stepN l fin want s x).2 := by
  unfold stepN
  split
  · exact h
  · exact (h.base x).add hx
end Go.Proofs.Ytaapbnhggfmlpaa.A
end
section
set_option linter.unusedVariables false
set_option linter.unusedSimpArgs false
namespace Go.Proofs.Ytaapbnhggfmlpaa.P
open Go.RowKit Go.Proofs.YtaapbnhggfmlpaaW.PrintWords Go.Proofs.YtaapbnhggfmlpaaW.PrintLast Go.Proofs.YtaapbnhggfmlpaaW.PrintMore
open Go.Proofs.Ytaapbnhggfmlpaa.M Go.Proofs.Ytaapbnhggfmlpaa.A
set_option maxHeartbeats 2000000 in
set_option maxRecDepth 100000 in
theorem order1_ (w0 : World) (gp gb gm cW cP cV cN gx : Nat) (A : Option Addr) (c : Nat) (l : List (List Int)) (fin wi want : Int) (ks : List T3) (x : Itm) (w : World) (hn : l.length ≤ 9) (hrow : ∀ j : Nat, j < l.length → (rd_Ls2 l j).length = l.length)
    (hx : Tk l.length x.t) (hW : PW w0 gp gb gm A c l fin w) (hM : Mem l fin gm w) (hks : KOk l.length ks)
    (bW : w.heap[cW]? = some (.cells #[.int .i64 wi] 3 (0, 0))) (bP : w.heap[cP]? = some (.cells #[.pointer (some ⟨gp, 0, none⟩)] 147 (0, 0))) (bV : w.heap[cV]? = some (.cells #[.int .i64 want] 2 (0, 0))) (bN : w.heap[cN]? = some (.cells #[.map (some gx)] 111 (0, 0)))
    (hG : TM w gx ks.length (kf l fin ks)) (nW : cW ≠ gm) (nP : cP ≠ gm) (nV : cV ≠ gm) (nN : cN ≠ gm) (nX : gx ≠ gm) (mW : w0.heap.size ≤ cW) (mX : w0.heap.size ≤ gx)
    (nWp : cW ≠ gp) (nWb : cW ≠ gb) (nXW : gx ≠ cW) (nWP : cW ≠ cP) (nWN : cW ≠ cN) :
    Calls Try.prog 125 (#[.int .i64 x.w, .int .i64 x.c, x.t.v] ++ #[.pointer (some ⟨cW, 0, none⟩), .pointer (some ⟨cP, 0, none⟩), .pointer (some ⟨cV, 0, none⟩), .pointer (some ⟨cN, 0, none⟩)]) w fun e w' => e = .returned (.tuple #[]) ∧ Mem l fin gm w' ∧
      w'.heap[cW]? = some (.cells #[.int .i64 (stepN l fin want (wi, ks) x).1] 3 (0, 0)) ∧ TM w' gx (stepN l fin want (wi, ks) x).2.length (kf l fin (stepN l fin want (wi, ks) x).2) ∧ Fr (fun k => k = gm ∨ k = cW ∨ k = gx) w w' := by
  show Calls Try.prog 125 #[.int .i64 x.w, .int .i64 x.c, x.t.v, .pointer (some ⟨cW, 0, none⟩), .pointer (some ⟨cP, 0, none⟩), .pointer (some ⟨cV, 0, none⟩), .pointer (some ⟨cN, 0, none⟩)] w _
  have HROW := Aside0.mk hrow
  have HT0 := Aside0.mk hx
  have HW := Aside0.mk hW
  have HM := Aside0.mk hM
  have HKS := Aside0.mk hks
  have BKW := Aside0.mk bW
  have BKP := Aside0.mk bP
  have BKV := Aside0.mk bV
  have BKN := Aside0.mk bN
  have HG := Aside0.mk hG
  have NW := Aside0.mk nW
  have NP := Aside0.mk nP
  have NV := Aside0.mk nV
  have NN := Aside0.mk nN
  have NX := Aside0.mk nX
  have MW := Aside0.mk mW
  have MX := Aside0.mk mX
  have NWx := Aside0.mk (And.intro nWp (And.intro nWb (And.intro nXW (And.intro nWP nWN))))
  clear hrow hx hW hM hks bW bP bV bN hG nW nP nV nN nX nWp nWb nXW nWP nWN mW mX
  have hu150 := Try.underlying150
  have hu147 := Try.underlying147
  have hu111 := Try.underlying111
  obtain ⟨xw, xc, d, tl, ts⟩ := x
  have HT : Aside0 (Tk l.length ⟨d, tl, ts⟩) := ⟨HT0.out⟩
  have HTC : Aside0 (tcnt l.length ⟨d, tl, ts⟩ < 10) := ⟨by have := ucnt_le l.length (T3.d ⟨d, tl, ts⟩).toNat; unfold tcnt; omega⟩
  clear HT0
  go_enter Try.func125, Try.ntmps125
  go_wp2_with (first
      | ((with_reducible refine gate_dst (N := 9) rfl ?_); refine box_event ?hg (N := 9) ?hd (cs := #[.int .i64 d, .int .i64 tl, .int .i64 ts]) (t := 150) ?hr ?_; (case hd => rfl); (case hg => rfl); (case hr => first | (go_simp; done) | (go_simp; rfl)); intro gt hg w2 hbox hb; have NTT := Aside0.mk (show gt ≠ gm from fun e => by have := HM.out.lt; omega); have HFR := Aside0.mk (Fr.of_below (F := fun k => k = gm ∨ k = cW ∨ k = gx) hb);
         have n1_ := Aside0.mk (blk_below BKW.out hb); have n2_ := Aside0.mk (blk_below BKP.out hb); have n3_ := Aside0.mk (blk_below BKV.out hb); have n4_ := Aside0.mk (blk_below BKN.out hb); have n5_ := Aside0.mk (HW.out.below hb); have n6_ := Aside0.mk (HM.out.below hb); have n7_ := Aside0.mk (HG.out.heap (hb.block _ HG.out.lt)); have BKT := Aside0.mk hbox;
         clear BKW BKP BKV BKN HW HM HG hg hb hbox; have BKW := n1_; have BKP := n2_; have BKV := n3_; have BKN := n4_; have HW := n5_; have HM := n6_; have HG := n7_; clear n1_ n2_ n3_ n4_ n5_ n6_ n7_))
  have hcW := (blk_cell BKW.out 0).trans rfl
  have hcP := (blk_cell BKP.out 0).trans rfl
  have hcV := (blk_cell BKV.out 0).trans rfl
  have hcN := (blk_cell BKN.out 0).trans rfl
  have hd0 := (blk_cell BKT.out 0).trans rfl
  have hd1 := (blk_cell BKT.out 1).trans rfl
  have hd2 := (blk_cell BKT.out 2).trans rfl
  by_cases c1 : wi < (xw : Int)
  · have c1b : decide (wi < (xw : Int)) = true := decide_eq_true c1
    refine start_ (n := 18) (S := fun w' => w'.cell? ⟨cW, 0, none⟩ = some (.int .i64 wi) ∧ w'.cell? ⟨cP, 0, none⟩ = some (.pointer (some ⟨gp, 0, none⟩)) ∧ w'.cell? ⟨cV, 0, none⟩ = some (.int .i64 want) ∧ w'.cell? ⟨gt, 0, none⟩ = some (.int .i64 d) ∧ w'.cell? ⟨gt, 1, none⟩ = some (.int .i64 tl) ∧ w'.cell? ⟨gt, 2, none⟩ = some (.int .i64 ts)) (ds := []) #[false, false, false, false, false, false, false, false, false, false, false, false, false, false, false, false, false, false] (by kernel_rfl) rfl rfl ⟨hcW, hcP, hcV, hd0, hd1, hd2⟩ (fun hHeld => ?_)
    refine pure_ (i := 0) (N := some 10) (v := ?_) (a' := ?_) #[true, false, false, false, false, false, false, false, false, false, false, false, false, false, false, false, false, false] rfl rfl (by kernel_rfl) (fun _ _ _ h => h) (Or.inl ⟨by rfl, ?_⟩) ?_ ?_
    rotate_left
    · intro w'
      go_simp
      with_reducible rfl
    rotate_left
    · simp only [Act.put, List.setIfInBounds_toArray, List.set_cons_zero, List.set_cons_succ, i64_w, i32_w]
      rfl
    refine take_ (i := 1) (N := some 11) (v := ?_) (a' := ?_) #[true, true, false, false, false, false, false, false, false, false, false, false, false, false, false, false, false, false] rfl rfl (by kernel_rfl) (fun _ _ _ h => h) (Or.inl ⟨by rfl, ?_⟩) hHeld ?_ ?_
    rotate_left
    · rintro w' ⟨s0, s1, s2, s3, s4, s5⟩
      go_simp
      with_reducible rfl
    rotate_left
    · simp only [Act.put, List.setIfInBounds_toArray, List.set_cons_zero, List.set_cons_succ, i64_w, i32_w]
      rfl
    refine pure_ (i := 2) (N := some 12) (v := ?_) (a' := ?_) #[true, true, true, false, false, false, false, false, false, false, false, false, false, false, false, false, false, false] rfl rfl (by kernel_rfl) (fun _ _ _ h => h) (Or.inl ⟨by rfl, ?_⟩) ?_ ?_
    rotate_left
    · intro w'
      go_simp
      with_reducible rfl
    rotate_left
    · simp only [Act.put, List.setIfInBounds_toArray, List.set_cons_zero, List.set_cons_succ, i64_w, i32_w]
      rfl
    refine pure_ (i := 3) (N := some 13) (v := ?_) (a' := ?_) #[true, true, true, true, false, false, false, false, false, false, false, false, false, false, false, false, false, false] rfl rfl (by kernel_rfl) (fun _ _ _ h => h) (Or.inl ⟨by rfl, ?_⟩) ?_ ?_
    rotate_left
    · intro w'
      go_simp
      with_reducible rfl
    rotate_left
    · simp only [Act.put, List.setIfInBounds_toArray, List.set_cons_zero, List.set_cons_succ, i64_w, i32_w]
      rfl
    refine pure_ (i := 4) (N := some 14) (v := undef) (a' := ?_) #[true, true, true, true, true, false, false, false, false, false, false, false, false, false, false, false, false, false] rfl rfl (by kernel_rfl) (fun _ _ _ h => h) (Or.inr ⟨by rfl, rfl⟩) ?_ ?_
    rotate_left
    · simp only [Act.put, List.setIfInBounds_toArray, List.set_cons_zero, List.set_cons_succ, i64_w, i32_w]
      rfl
    refine pure_ (i := 5) (N := some 15) (v := undef) (a' := ?_) #[true, true, true, true, true, true, false, false, false, false, false, false, false, false, false, false, false, false] rfl rfl (by kernel_rfl) (fun _ _ _ h => h) (Or.inr ⟨by rfl, rfl⟩) ?_ ?_
    rotate_left
    · simp only [Act.put, List.setIfInBounds_toArray, List.set_cons_zero, List.set_cons_succ, i64_w, i32_w]
      rfl
    refine pure_ (i := 6) (N := some 16) (v := undef) (a' := ?_) #[true, true, true, true, true, true, true, false, false, false, false, false, false, false, false, false, false, false] rfl rfl (by kernel_rfl) (fun _ _ _ h => h) (Or.inr ⟨by rfl, rfl⟩) ?_ ?_
    rotate_left
    · simp only [Act.put, List.setIfInBounds_toArray, List.set_cons_zero, List.set_cons_succ, i64_w, i32_w]
      rfl
    refine pure_ (i := 7) (N := some 17) (v := undef) (a' := ?_) #[true, true, true, true, true, true, true, true, false, false, false, false, false, false, false, false, false, false] rfl rfl (by kernel_rfl) (fun _ _ _ h => h) (Or.inr ⟨by rfl, rfl⟩) ?_ ?_
    rotate_left
    · simp only [Act.put, List.setIfInBounds_toArray, List.set_cons_zero, List.set_cons_succ, i64_w, i32_w]
      rfl
    refine pure_ (i := 8) (N := some 18) (v := ?_) (a' := ?_) #[true, true, true, true, true, true, true, true, true, false, false, false, false, false, false, false, false, false] rfl rfl (by kernel_rfl) (fun _ _ _ h => h) (Or.inl ⟨by rfl, ?_⟩) ?_ ?_
    rotate_left
    · intro w'
      go_simp
      with_reducible rfl
    rotate_left
    · simp only [Act.put, List.setIfInBounds_toArray, List.set_cons_zero, List.set_cons_succ, i64_w, i32_w]
      rfl
    refine pure_ (i := 9) (N := some 19) (v := ?_) (a' := ?_) #[true, true, true, true, true, true, true, true, true, true, false, false, false, false, false, false, false, false] rfl rfl (by kernel_rfl) (fun _ _ _ h => h) (Or.inl ⟨by rfl, ?_⟩) ?_ ?_
    rotate_left
    · intro w'
      go_simp
      with_reducible rfl
    rotate_left
    · simp only [Act.put, List.setIfInBounds_toArray, List.set_cons_zero, List.set_cons_succ, i64_w, i32_w]
      rfl
    refine pure_ (i := 10) (N := some 20) (v := undef) (a' := ?_) #[true, true, true, true, true, true, true, true, true, true, true, false, false, false, false, false, false, false] rfl rfl (by kernel_rfl) (fun _ _ _ h => h) (Or.inr ⟨by rfl, rfl⟩) ?_ ?_
    rotate_left
    · simp only [Act.put, List.setIfInBounds_toArray, List.set_cons_zero, List.set_cons_succ, i64_w, i32_w]
      rfl
    refine pure_ (i := 11) (N := some 21) (v := undef) (a' := ?_) #[true, true, true, true, true, true, true, true, true, true, true, true, false, false, false, false, false, false] rfl rfl (by kernel_rfl) (fun _ _ _ h => h) (Or.inr ⟨by rfl, rfl⟩) ?_ ?_
    rotate_left
    · simp only [Act.put, List.setIfInBounds_toArray, List.set_cons_zero, List.set_cons_succ, i64_w, i32_w]
      rfl
    refine pure_ (i := 12) (N := some 22) (v := undef) (a' := ?_) #[true, true, true, true, true, true, true, true, true, true, true, true, true, false, false, false, false, false] rfl rfl (by kernel_rfl) (fun _ _ _ h => h) (Or.inr ⟨by rfl, rfl⟩) ?_ ?_
    rotate_left
    · simp only [Act.put, List.setIfInBounds_toArray, List.set_cons_zero, List.set_cons_succ, i64_w, i32_w]
      rfl
    refine pure_ (i := 13) (N := some 23) (v := undef) (a' := ?_) #[true, true, true, true, true, true, true, true, true, true, true, true, true, true, false, false, false, false] rfl rfl (by kernel_rfl) (fun _ _ _ h => h) (Or.inr ⟨by rfl, rfl⟩) ?_ ?_
    rotate_left
    · simp only [Act.put, List.setIfInBounds_toArray, List.set_cons_zero, List.set_cons_succ, i64_w, i32_w]
      rfl
    refine pure_ (i := 14) (N := some 24) (v := undef) (a' := ?_) #[true, true, true, true, true, true, true, true, true, true, true, true, true, true, true, false, false, false] rfl rfl (by kernel_rfl) (fun _ _ _ h => h) (Or.inr ⟨by rfl, rfl⟩) ?_ ?_
    rotate_left
    · simp only [Act.put, List.setIfInBounds_toArray, List.set_cons_zero, List.set_cons_succ, i64_w, i32_w]
      rfl
    refine pure_ (i := 15) (N := some 25) (v := undef) (a' := ?_) #[true, true, true, true, true, true, true, true, true, true, true, true, true, true, true, true, false, false] rfl rfl (by kernel_rfl) (fun _ _ _ h => h) (Or.inr ⟨by rfl, rfl⟩) ?_ ?_
    rotate_left
    · simp only [Act.put, List.setIfInBounds_toArray, List.set_cons_zero, List.set_cons_succ, i64_w, i32_w]
      rfl
    refine pure_ (i := 16) (N := some 26) (v := undef) (a' := ?_) #[true, true, true, true, true, true, true, true, true, true, true, true, true, true, true, true, true, false] rfl rfl (by kernel_rfl) (fun _ _ _ h => h) (Or.inr ⟨by rfl, rfl⟩) ?_ ?_
    rotate_left
    · simp only [Act.put, List.setIfInBounds_toArray, List.set_cons_zero, List.set_cons_succ, i64_w, i32_w]
      rfl
    refine pure_ (i := 17) (N := some 27) (v := ?_) (a' := ?_) #[true, true, true, true, true, true, true, true, true, true, true, true, true, true, true, true, true, true] rfl rfl (by kernel_rfl) (fun _ _ _ h => h) (Or.inl ⟨by rfl, ?_⟩) ?_ ?_
    rotate_left
    · intro w'
      go_simp
      with_reducible rfl
    rotate_left
    · simp only [Act.put, List.setIfInBounds_toArray, List.set_cons_zero, List.set_cons_succ, i64_w, i32_w]
      rfl
    refine done_ (by kernel_rfl) ?_

    go_wp2
    first | go_end0 | ((try simp only [Exit.inBlock, Exit.then]); refine bodyPost_ret (results_none rfl _ _ _) rfl ?_)
    have e : stepN l fin want (wi, ks) ⟨xw, xc, ⟨d, tl, ts⟩⟩ = (wi, ks) := if_pos (.inl c1)
    rw [e]
    exact ⟨rfl, HM.out.below (by repeat first | exact Below.refl _ _ | refine pw_below_drewN ?_ _ | refine Below.drew ?_), BKW.out, HG.out.heap rfl, HFR.out.trans (Fr.of_below (by repeat first | exact Below.refl _ _ | refine pw_below_drewN ?_ _ | refine Below.drew ?_))⟩
  · have c1b : decide (wi < (xw : Int)) = false := decide_eq_false c1
    by_cases c2 : lf l fin ⟨d, tl, ts⟩ < 0
    · have c2b : decide (lf l fin ⟨d, tl, ts⟩ < 0) = true := decide_eq_true c2
      refine start_ (n := 18) (S := fun w' => w'.cell? ⟨cW, 0, none⟩ = some (.int .i64 wi) ∧ w'.cell? ⟨cP, 0, none⟩ = some (.pointer (some ⟨gp, 0, none⟩)) ∧ w'.cell? ⟨cV, 0, none⟩ = some (.int .i64 want) ∧ w'.cell? ⟨gt, 0, none⟩ = some (.int .i64 d) ∧ w'.cell? ⟨gt, 1, none⟩ = some (.int .i64 tl) ∧ w'.cell? ⟨gt, 2, none⟩ = some (.int .i64 ts)) (ds := []) #[false, false, false, false, false, false, false, false, false, false, false, false, false, false, false, false, false, false] (by kernel_rfl) rfl rfl ⟨hcW, hcP, hcV, hd0, hd1, hd2⟩ (fun hHeld => ?_)
      refine pure_ (i := 0) (N := some 10) (v := ?_) (a' := ?_) #[true, false, false, false, false, false, false, false, false, false, false, false, false, false, false, false, false, false] rfl rfl (by kernel_rfl) (fun _ _ _ h => h) (Or.inl ⟨by rfl, ?_⟩) ?_ ?_
      rotate_left
      · intro w'
        go_simp
        with_reducible rfl
      rotate_left
      · simp only [Act.put, List.setIfInBounds_toArray, List.set_cons_zero, List.set_cons_succ, i64_w, i32_w]
        rfl
      refine take_ (i := 1) (N := some 11) (v := ?_) (a' := ?_) #[true, true, false, false, false, false, false, false, false, false, false, false, false, false, false, false, false, false] rfl rfl (by kernel_rfl) (fun _ _ _ h => h) (Or.inl ⟨by rfl, ?_⟩) hHeld ?_ ?_
      rotate_left
      · rintro w' ⟨s0, s1, s2, s3, s4, s5⟩
        go_simp
        with_reducible rfl
      rotate_left
      · simp only [Act.put, List.setIfInBounds_toArray, List.set_cons_zero, List.set_cons_succ, i64_w, i32_w]
        rfl
      refine pure_ (i := 2) (N := some 12) (v := ?_) (a' := ?_) #[true, true, true, false, false, false, false, false, false, false, false, false, false, false, false, false, false, false] rfl rfl (by kernel_rfl) (fun _ _ _ h => h) (Or.inl ⟨by rfl, ?_⟩) ?_ ?_
      rotate_left
      · intro w'
        go_simp
        with_reducible rfl
      rotate_left
      · simp only [Act.put, List.setIfInBounds_toArray, List.set_cons_zero, List.set_cons_succ, i64_w, i32_w]
        rfl
      refine pure_ (i := 3) (N := some 13) (v := ?_) (a' := ?_) #[true, true, true, true, false, false, false, false, false, false, false, false, false, false, false, false, false, false] rfl rfl (by kernel_rfl) (fun _ _ _ h => h) (Or.inl ⟨by rfl, ?_⟩) ?_ ?_
      rotate_left
      · intro w'
        go_simp
        with_reducible rfl
      rotate_left
      · simp only [Act.put, List.setIfInBounds_toArray, List.set_cons_zero, List.set_cons_succ, i64_w, i32_w]
        rfl
      refine take_ (i := 4) (N := some 14) (v := ?_) (a' := ?_) #[true, true, true, true, true, false, false, false, false, false, false, false, false, false, false, false, false, false] rfl rfl (by kernel_rfl) (fun _ _ _ h => h) (Or.inl ⟨by rfl, ?_⟩) hHeld ?_ ?_
      rotate_left
      · rintro w' ⟨s0, s1, s2, s3, s4, s5⟩
        go_simp
        with_reducible rfl
      rotate_left
      · simp only [Act.put, List.setIfInBounds_toArray, List.set_cons_zero, List.set_cons_succ, i64_w, i32_w]
        rfl
      refine take_ (i := 5) (N := some 15) (v := ?_) (a' := ?_) #[true, true, true, true, true, true, false, false, false, false, false, false, false, false, false, false, false, false] rfl rfl (by kernel_rfl) (fun _ _ _ h => h) (Or.inl ⟨by rfl, ?_⟩) hHeld ?_ ?_
      rotate_left
      · rintro w' ⟨s0, s1, s2, s3, s4, s5⟩
        go_simp
        with_reducible rfl
      rotate_left
      · simp only [Act.put, List.setIfInBounds_toArray, List.set_cons_zero, List.set_cons_succ, i64_w, i32_w]
        rfl
      refine one_ (i := 6) (N := some 16) #[true, true, true, true, true, true, true, false, false, false, false, false, false, false, false, false, false, false] rfl rfl (by kernel_rfl) (by decide) (fun K hK => ?_)
      refine goes_ Try.func123 (by kernel_rfl) rfl #[.pointer (some ⟨gp, 0, none⟩), .agg #[.int .i64 d, .int .i64 tl, .int .i64 ts]] (by rfl) rfl rfl (by simp only [List.map_toArray, List.map_cons, List.map_nil]; rfl) ?_
      refine (left_ w0 gp gb gm A c l fin hn HROW.out 10 ⟨d, tl, ts⟩ _ HTC.out HT.out (PW.below (w' := w2.drew) HW.out (by repeat first | exact Below.refl _ _ | refine pw_below_drewN ?_ _ | refine Below.drew ?_)) (HM.out.below (by repeat first | exact Below.refl _ _ | refine pw_below_drewN ?_ _ | refine Below.drew ?_))).mono ?_
      rintro e w3_ ⟨rfl, hM_, hF_⟩
      refine ⟨_, rfl, ?_⟩
      have HFw3_ := Aside0.mk (Fr.then_ (HFR.out.trans (Fr.of_below (by repeat first | exact Below.refl _ _ | refine pw_below_drewN ?_ _ | refine Below.drew ?_))) hF_ (fun i hi => .inl (.inl hi)))
      have HMw3_ := Aside0.mk hM_
      have HWw3_ := Aside0.mk (PW.fr (PW.below (w' := w2.drew) HW.out (by repeat first | exact Below.refl _ _ | refine pw_below_drewN ?_ _ | refine Below.drew ?_)) hF_ (fun k e => e ▸ HW.out.ge) HW.out.np HW.out.nb)
      have BKWw3_ := Aside0.mk (hF_.blk (show w2.drew.heap[_]? = _ from BKW.out) NW.out)
      have BKPw3_ := Aside0.mk (hF_.blk (show w2.drew.heap[_]? = _ from BKP.out) NP.out)
      have BKVw3_ := Aside0.mk (hF_.blk (show w2.drew.heap[_]? = _ from BKV.out) NV.out)
      have BKTw3_ := Aside0.mk (hF_.blk (show w2.drew.heap[_]? = _ from BKT.out) NTT.out)
      have BKNw3_ := Aside0.mk (hF_.blk (show w2.drew.heap[_]? = _ from BKN.out) NN.out)
      have HGw3_ := Aside0.mk (HG.out.heap (hF_.block gx HG.out.lt NX.out))
      clear hM_ hF_
      refine hK.out _ _ ⟨(blk_cell BKWw3_.out 0).trans rfl, (blk_cell BKPw3_.out 0).trans rfl, (blk_cell BKVw3_.out 0).trans rfl, (blk_cell BKTw3_.out 0).trans rfl, (blk_cell BKTw3_.out 1).trans rfl, (blk_cell BKTw3_.out 2).trans rfl⟩ (fun hHeld => ?_)
      clear hK K
      refine norm_ (a' := ?_) ?_ ?_
      rotate_left
      · show Act.put _ (some 16) _ = _
        simp only [Act.put, List.setIfInBounds_toArray, List.set_cons_zero, List.set_cons_succ, i64_w, i32_w]
        rfl
      refine pure_ (i := 7) (N := some 17) (v := ?_) (a' := ?_) #[true, true, true, true, true, true, true, true, false, false, false, false, false, false, false, false, false, false] rfl rfl (by kernel_rfl) (fun _ _ _ h => h) (Or.inl ⟨by rfl, ?_⟩) ?_ ?_
      rotate_left
      · intro w'
        go_simp
        with_reducible rfl
      rotate_left
      · simp only [Act.put, List.setIfInBounds_toArray, List.set_cons_zero, List.set_cons_succ, i64_w, i32_w]
        rfl
      refine pure_ (i := 8) (N := some 18) (v := ?_) (a' := ?_) #[true, true, true, true, true, true, true, true, true, false, false, false, false, false, false, false, false, false] rfl rfl (by kernel_rfl) (fun _ _ _ h => h) (Or.inl ⟨by rfl, ?_⟩) ?_ ?_
      rotate_left
      · intro w'
        go_simp
        with_reducible rfl
      rotate_left
      · simp only [Act.put, List.setIfInBounds_toArray, List.set_cons_zero, List.set_cons_succ, i64_w, i32_w]
        rfl
      refine pure_ (i := 9) (N := some 19) (v := ?_) (a' := ?_) #[true, true, true, true, true, true, true, true, true, true, false, false, false, false, false, false, false, false] rfl rfl (by kernel_rfl) (fun _ _ _ h => h) (Or.inl ⟨by rfl, ?_⟩) ?_ ?_
      rotate_left
      · intro w'
        go_simp
        with_reducible rfl
      rotate_left
      · simp only [Act.put, List.setIfInBounds_toArray, List.set_cons_zero, List.set_cons_succ, i64_w, i32_w]
        rfl
      refine pure_ (i := 10) (N := some 20) (v := undef) (a' := ?_) #[true, true, true, true, true, true, true, true, true, true, true, false, false, false, false, false, false, false] rfl rfl (by kernel_rfl) (fun _ _ _ h => h) (Or.inr ⟨by rfl, rfl⟩) ?_ ?_
      rotate_left
      · simp only [Act.put, List.setIfInBounds_toArray, List.set_cons_zero, List.set_cons_succ, i64_w, i32_w]
        rfl
      refine pure_ (i := 11) (N := some 21) (v := undef) (a' := ?_) #[true, true, true, true, true, true, true, true, true, true, true, true, false, false, false, false, false, false] rfl rfl (by kernel_rfl) (fun _ _ _ h => h) (Or.inr ⟨by rfl, rfl⟩) ?_ ?_
      rotate_left
      · simp only [Act.put, List.setIfInBounds_toArray, List.set_cons_zero, List.set_cons_succ, i64_w, i32_w]
        rfl
      refine pure_ (i := 12) (N := some 22) (v := undef) (a' := ?_) #[true, true, true, true, true, true, true, true, true, true, true, true, true, false, false, false, false, false] rfl rfl (by kernel_rfl) (fun _ _ _ h => h) (Or.inr ⟨by rfl, rfl⟩) ?_ ?_
      rotate_left
      · simp only [Act.put, List.setIfInBounds_toArray, List.set_cons_zero, List.set_cons_succ, i64_w, i32_w]
        rfl
      refine pure_ (i := 13) (N := some 23) (v := undef) (a' := ?_) #[true, true, true, true, true, true, true, true, true, true, true, true, true, true, false, false, false, false] rfl rfl (by kernel_rfl) (fun _ _ _ h => h) (Or.inr ⟨by rfl, rfl⟩) ?_ ?_
      rotate_left
      · simp only [Act.put, List.setIfInBounds_toArray, List.set_cons_zero, List.set_cons_succ, i64_w, i32_w]
        rfl
      refine pure_ (i := 14) (N := some 24) (v := undef) (a' := ?_) #[true, true, true, true, true, true, true, true, true, true, true, true, true, true, true, false, false, false] rfl rfl (by kernel_rfl) (fun _ _ _ h => h) (Or.inr ⟨by rfl, rfl⟩) ?_ ?_
      rotate_left
      · simp only [Act.put, List.setIfInBounds_toArray, List.set_cons_zero, List.set_cons_succ, i64_w, i32_w]
        rfl
      refine pure_ (i := 15) (N := some 25) (v := undef) (a' := ?_) #[true, true, true, true, true, true, true, true, true, true, true, true, true, true, true, true, false, false] rfl rfl (by kernel_rfl) (fun _ _ _ h => h) (Or.inr ⟨by rfl, rfl⟩) ?_ ?_
      rotate_left
      · simp only [Act.put, List.setIfInBounds_toArray, List.set_cons_zero, List.set_cons_succ, i64_w, i32_w]
        rfl
      refine pure_ (i := 16) (N := some 26) (v := undef) (a' := ?_) #[true, true, true, true, true, true, true, true, true, true, true, true, true, true, true, true, true, false] rfl rfl (by kernel_rfl) (fun _ _ _ h => h) (Or.inr ⟨by rfl, rfl⟩) ?_ ?_
      rotate_left
      · simp only [Act.put, List.setIfInBounds_toArray, List.set_cons_zero, List.set_cons_succ, i64_w, i32_w]
        rfl
      refine pure_ (i := 17) (N := some 27) (v := ?_) (a' := ?_) #[true, true, true, true, true, true, true, true, true, true, true, true, true, true, true, true, true, true] rfl rfl (by kernel_rfl) (fun _ _ _ h => h) (Or.inl ⟨by rfl, ?_⟩) ?_ ?_
      rotate_left
      · intro w'
        go_simp
        with_reducible rfl
      rotate_left
      · simp only [Act.put, List.setIfInBounds_toArray, List.set_cons_zero, List.set_cons_succ, i64_w, i32_w]
        rfl
      refine done_ (by kernel_rfl) ?_

      go_wp2
      first | go_end0 | ((try simp only [Exit.inBlock, Exit.then]); refine bodyPost_ret (results_none rfl _ _ _) rfl ?_)
      have e : stepN l fin want (wi, ks) ⟨xw, xc, ⟨d, tl, ts⟩⟩ = (wi, ks) := if_pos (.inr (.inl c2))
      rw [e]
      exact ⟨rfl, HMw3_.out, BKWw3_.out, HGw3_.out, HFw3_.out⟩
    · have c2b : decide (lf l fin ⟨d, tl, ts⟩ < 0) = false := decide_eq_false c2
      refine start_ (n := 18) (S := fun w' => w'.cell? ⟨cW, 0, none⟩ = some (.int .i64 wi) ∧ w'.cell? ⟨cP, 0, none⟩ = some (.pointer (some ⟨gp, 0, none⟩)) ∧ w'.cell? ⟨cV, 0, none⟩ = some (.int .i64 want) ∧ w'.cell? ⟨gt, 0, none⟩ = some (.int .i64 d) ∧ w'.cell? ⟨gt, 1, none⟩ = some (.int .i64 tl) ∧ w'.cell? ⟨gt, 2, none⟩ = some (.int .i64 ts)) (ds := []) #[false, false, false, false, false, false, false, false, false, false, false, false, false, false, false, false, false, false] (by kernel_rfl) rfl rfl ⟨hcW, hcP, hcV, hd0, hd1, hd2⟩ (fun hHeld => ?_)
      refine pure_ (i := 0) (N := some 10) (v := ?_) (a' := ?_) #[true, false, false, false, false, false, false, false, false, false, false, false, false, false, false, false, false, false] rfl rfl (by kernel_rfl) (fun _ _ _ h => h) (Or.inl ⟨by rfl, ?_⟩) ?_ ?_
      rotate_left
      · intro w'
        go_simp
        with_reducible rfl
      rotate_left
      · simp only [Act.put, List.setIfInBounds_toArray, List.set_cons_zero, List.set_cons_succ, i64_w, i32_w]
        rfl
      refine take_ (i := 1) (N := some 11) (v := ?_) (a' := ?_) #[true, true, false, false, false, false, false, false, false, false, false, false, false, false, false, false, false, false] rfl rfl (by kernel_rfl) (fun _ _ _ h => h) (Or.inl ⟨by rfl, ?_⟩) hHeld ?_ ?_
      rotate_left
      · rintro w' ⟨s0, s1, s2, s3, s4, s5⟩
        go_simp
        with_reducible rfl
      rotate_left
      · simp only [Act.put, List.setIfInBounds_toArray, List.set_cons_zero, List.set_cons_succ, i64_w, i32_w]
        rfl
      refine pure_ (i := 2) (N := some 12) (v := ?_) (a' := ?_) #[true, true, true, false, false, false, false, false, false, false, false, false, false, false, false, false, false, false] rfl rfl (by kernel_rfl) (fun _ _ _ h => h) (Or.inl ⟨by rfl, ?_⟩) ?_ ?_
      rotate_left
      · intro w'
        go_simp
        with_reducible rfl
      rotate_left
      · simp only [Act.put, List.setIfInBounds_toArray, List.set_cons_zero, List.set_cons_succ, i64_w, i32_w]
        rfl
      refine pure_ (i := 3) (N := some 13) (v := ?_) (a' := ?_) #[true, true, true, true, false, false, false, false, false, false, false, false, false, false, false, false, false, false] rfl rfl (by kernel_rfl) (fun _ _ _ h => h) (Or.inl ⟨by rfl, ?_⟩) ?_ ?_
      rotate_left
      · intro w'
        go_simp
        with_reducible rfl
      rotate_left
      · simp only [Act.put, List.setIfInBounds_toArray, List.set_cons_zero, List.set_cons_succ, i64_w, i32_w]
        rfl
      refine take_ (i := 4) (N := some 14) (v := ?_) (a' := ?_) #[true, true, true, true, true, false, false, false, false, false, false, false, false, false, false, false, false, false] rfl rfl (by kernel_rfl) (fun _ _ _ h => h) (Or.inl ⟨by rfl, ?_⟩) hHeld ?_ ?_
      rotate_left
      · rintro w' ⟨s0, s1, s2, s3, s4, s5⟩
        go_simp
        with_reducible rfl
      rotate_left
      · simp only [Act.put, List.setIfInBounds_toArray, List.set_cons_zero, List.set_cons_succ, i64_w, i32_w]
        rfl
      refine take_ (i := 5) (N := some 15) (v := ?_) (a' := ?_) #[true, true, true, true, true, true, false, false, false, false, false, false, false, false, false, false, false, false] rfl rfl (by kernel_rfl) (fun _ _ _ h => h) (Or.inl ⟨by rfl, ?_⟩) hHeld ?_ ?_
      rotate_left
      · rintro w' ⟨s0, s1, s2, s3, s4, s5⟩
        go_simp
        with_reducible rfl
      rotate_left
      · simp only [Act.put, List.setIfInBounds_toArray, List.set_cons_zero, List.set_cons_succ, i64_w, i32_w]
        rfl
      refine one_ (i := 6) (N := some 16) #[true, true, true, true, true, true, true, false, false, false, false, false, false, false, false, false, false, false] rfl rfl (by kernel_rfl) (by decide) (fun K hK => ?_)
      refine goes_ Try.func123 (by kernel_rfl) rfl #[.pointer (some ⟨gp, 0, none⟩), .agg #[.int .i64 d, .int .i64 tl, .int .i64 ts]] (by rfl) rfl rfl (by simp only [List.map_toArray, List.map_cons, List.map_nil]; rfl) ?_
      refine (left_ w0 gp gb gm A c l fin hn HROW.out 10 ⟨d, tl, ts⟩ _ HTC.out HT.out (PW.below (w' := w2.drew) HW.out (by repeat first | exact Below.refl _ _ | refine pw_below_drewN ?_ _ | refine Below.drew ?_)) (HM.out.below (by repeat first | exact Below.refl _ _ | refine pw_below_drewN ?_ _ | refine Below.drew ?_))).mono ?_
      rintro e w3_ ⟨rfl, hM_, hF_⟩
      refine ⟨_, rfl, ?_⟩
      have HFw3_ := Aside0.mk (Fr.then_ (HFR.out.trans (Fr.of_below (by repeat first | exact Below.refl _ _ | refine pw_below_drewN ?_ _ | refine Below.drew ?_))) hF_ (fun i hi => .inl (.inl hi)))
      have HMw3_ := Aside0.mk hM_
      have HWw3_ := Aside0.mk (PW.fr (PW.below (w' := w2.drew) HW.out (by repeat first | exact Below.refl _ _ | refine pw_below_drewN ?_ _ | refine Below.drew ?_)) hF_ (fun k e => e ▸ HW.out.ge) HW.out.np HW.out.nb)
      have BKWw3_ := Aside0.mk (hF_.blk (show w2.drew.heap[_]? = _ from BKW.out) NW.out)
      have BKPw3_ := Aside0.mk (hF_.blk (show w2.drew.heap[_]? = _ from BKP.out) NP.out)
      have BKVw3_ := Aside0.mk (hF_.blk (show w2.drew.heap[_]? = _ from BKV.out) NV.out)
      have BKTw3_ := Aside0.mk (hF_.blk (show w2.drew.heap[_]? = _ from BKT.out) NTT.out)
      have BKNw3_ := Aside0.mk (hF_.blk (show w2.drew.heap[_]? = _ from BKN.out) NN.out)
      have HGw3_ := Aside0.mk (HG.out.heap (hF_.block gx HG.out.lt NX.out))
      clear hM_ hF_
      refine hK.out _ _ ⟨(blk_cell BKWw3_.out 0).trans rfl, (blk_cell BKPw3_.out 0).trans rfl, (blk_cell BKVw3_.out 0).trans rfl, (blk_cell BKTw3_.out 0).trans rfl, (blk_cell BKTw3_.out 1).trans rfl, (blk_cell BKTw3_.out 2).trans rfl⟩ (fun hHeld => ?_)
      clear hK K
      refine norm_ (a' := ?_) ?_ ?_
      rotate_left
      · show Act.put _ (some 16) _ = _
        simp only [Act.put, List.setIfInBounds_toArray, List.set_cons_zero, List.set_cons_succ, i64_w, i32_w]
        rfl
      refine pure_ (i := 7) (N := some 17) (v := ?_) (a' := ?_) #[true, true, true, true, true, true, true, true, false, false, false, false, false, false, false, false, false, false] rfl rfl (by kernel_rfl) (fun _ _ _ h => h) (Or.inl ⟨by rfl, ?_⟩) ?_ ?_
      rotate_left
      · intro w'
        go_simp
        with_reducible rfl
      rotate_left
      · simp only [Act.put, List.setIfInBounds_toArray, List.set_cons_zero, List.set_cons_succ, i64_w, i32_w]
        rfl
      refine pure_ (i := 8) (N := some 18) (v := ?_) (a' := ?_) #[true, true, true, true, true, true, true, true, true, false, false, false, false, false, false, false, false, false] rfl rfl (by kernel_rfl) (fun _ _ _ h => h) (Or.inl ⟨by rfl, ?_⟩) ?_ ?_
      rotate_left
      · intro w'
        go_simp
        with_reducible rfl
      rotate_left
      · simp only [Act.put, List.setIfInBounds_toArray, List.set_cons_zero, List.set_cons_succ, i64_w, i32_w]
        rfl
      refine pure_ (i := 9) (N := some 19) (v := ?_) (a' := ?_) #[true, true, true, true, true, true, true, true, true, true, false, false, false, false, false, false, false, false] rfl rfl (by kernel_rfl) (fun _ _ _ h => h) (Or.inl ⟨by rfl, ?_⟩) ?_ ?_
      rotate_left
      · intro w'
        go_simp
        with_reducible rfl
      rotate_left
      · simp only [Act.put, List.setIfInBounds_toArray, List.set_cons_zero, List.set_cons_succ, i64_w, i32_w]
        rfl
      refine pure_ (i := 13) (N := some 23) (v := ?_) (a' := ?_) #[true, true, true, true, true, true, true, true, true, true, false, false, false, true, false, false, false, false] rfl rfl (by kernel_rfl) (fun _ _ _ h => h) (Or.inl ⟨by rfl, ?_⟩) ?_ ?_
      rotate_left
      · intro w'
        go_simp
        with_reducible rfl
      rotate_left
      · simp only [Act.put, List.setIfInBounds_toArray, List.set_cons_zero, List.set_cons_succ, i64_w, i32_w]
        rfl
      refine take_ (i := 10) (N := some 20) (v := ?_) (a' := ?_) #[true, true, true, true, true, true, true, true, true, true, true, false, false, true, false, false, false, false] rfl rfl (by kernel_rfl) (fun _ _ _ h => h) (Or.inl ⟨by rfl, ?_⟩) hHeld ?_ ?_
      rotate_left
      · rintro w' ⟨s0, s1, s2, s3, s4, s5⟩
        go_simp
        with_reducible rfl
      rotate_left
      · simp only [Act.put, List.setIfInBounds_toArray, List.set_cons_zero, List.set_cons_succ, i64_w, i32_w]
        rfl
      refine take_ (i := 11) (N := some 21) (v := ?_) (a' := ?_) #[true, true, true, true, true, true, true, true, true, true, true, true, false, true, false, false, false, false] rfl rfl (by kernel_rfl) (fun _ _ _ h => h) (Or.inl ⟨by rfl, ?_⟩) hHeld ?_ ?_
      rotate_left
      · rintro w' ⟨s0, s1, s2, s3, s4, s5⟩
        go_simp
        with_reducible rfl
      rotate_left
      · simp only [Act.put, List.setIfInBounds_toArray, List.set_cons_zero, List.set_cons_succ, i64_w, i32_w]
        rfl
      refine take_ (i := 15) (N := some 25) (v := ?_) (a' := ?_) #[true, true, true, true, true, true, true, true, true, true, true, true, false, true, false, true, false, false] rfl rfl (by kernel_rfl) (fun _ _ _ h => h) (Or.inl ⟨by rfl, ?_⟩) hHeld ?_ ?_
      rotate_left
      · rintro w' ⟨s0, s1, s2, s3, s4, s5⟩
        go_simp
        with_reducible rfl
      rotate_left
      · simp only [Act.put, List.setIfInBounds_toArray, List.set_cons_zero, List.set_cons_succ, i64_w, i32_w]
        rfl
      refine one_ (i := 12) (N := some 22) #[true, true, true, true, true, true, true, true, true, true, true, true, true, true, false, true, false, false] rfl rfl (by kernel_rfl) (by decide) (fun K hK => ?_)
      refine goes_ Try.func123 (by kernel_rfl) rfl #[.pointer (some ⟨gp, 0, none⟩), .agg #[.int .i64 d, .int .i64 tl, .int .i64 ts]] (by rfl) rfl rfl (by simp only [List.map_toArray, List.map_cons, List.map_nil]; rfl) ?_
      refine (left_ w0 gp gb gm A c l fin hn HROW.out 10 ⟨d, tl, ts⟩ _ HTC.out HT.out (HWw3_.out) (HMw3_.out)).mono ?_
      rintro e w4_ ⟨rfl, hM_, hF_⟩
      refine ⟨_, rfl, ?_⟩
      have HFw4_ := Aside0.mk (HFw3_.out.then_ hF_ (fun i hi => .inl (.inl hi)))
      have HMw4_ := Aside0.mk hM_
      have HWw4_ := Aside0.mk (PW.fr (HWw3_.out) hF_ (fun k e => e ▸ HW.out.ge) HW.out.np HW.out.nb)
      have BKWw4_ := Aside0.mk (hF_.blk (show w3_.heap[_]? = _ from BKWw3_.out) NW.out)
      have BKPw4_ := Aside0.mk (hF_.blk (show w3_.heap[_]? = _ from BKPw3_.out) NP.out)
      have BKVw4_ := Aside0.mk (hF_.blk (show w3_.heap[_]? = _ from BKVw3_.out) NV.out)
      have BKTw4_ := Aside0.mk (hF_.blk (show w3_.heap[_]? = _ from BKTw3_.out) NTT.out)
      have BKNw4_ := Aside0.mk (hF_.blk (show w3_.heap[_]? = _ from BKNw3_.out) NN.out)
      have HGw4_ := Aside0.mk (HGw3_.out.heap (hF_.block gx HGw3_.out.lt NX.out))
      clear hM_ hF_
      refine hK.out _ _ ⟨(blk_cell BKWw4_.out 0).trans rfl, (blk_cell BKPw4_.out 0).trans rfl, (blk_cell BKVw4_.out 0).trans rfl, (blk_cell BKTw4_.out 0).trans rfl, (blk_cell BKTw4_.out 1).trans rfl, (blk_cell BKTw4_.out 2).trans rfl⟩ (fun hHeld => ?_)
      clear hK K
      refine norm_ (a' := ?_) ?_ ?_
      rotate_left
      · show Act.put _ (some 22) _ = _
        simp only [Act.put, List.setIfInBounds_toArray, List.set_cons_zero, List.set_cons_succ, i64_w, i32_w]
        rfl
      refine pure_ (i := 14) (N := some 24) (v := ?_) (a' := ?_) #[true, true, true, true, true, true, true, true, true, true, true, true, true, true, true, true, false, false] rfl rfl (by kernel_rfl) (fun _ _ _ h => h) (Or.inl ⟨by rfl, ?_⟩) ?_ ?_
      rotate_left
      · intro w'
        go_simp
        with_reducible rfl
      rotate_left
      · simp only [Act.put, List.setIfInBounds_toArray, List.set_cons_zero, List.set_cons_succ, i64_w, i32_w]
        rfl
      refine pure_ (i := 16) (N := some 26) (v := ?_) (a' := ?_) #[true, true, true, true, true, true, true, true, true, true, true, true, true, true, true, true, true, false] rfl rfl (by kernel_rfl) (fun _ _ _ h => h) (Or.inl ⟨by rfl, ?_⟩) ?_ ?_
      rotate_left
      · intro w'
        go_simp
        with_reducible rfl
      rotate_left
      · simp only [Act.put, List.setIfInBounds_toArray, List.set_cons_zero, List.set_cons_succ, i64_w, i32_w]
        rfl
      refine pure_ (i := 17) (N := some 27) (v := ?_) (a' := ?_) #[true, true, true, true, true, true, true, true, true, true, true, true, true, true, true, true, true, true] rfl rfl (by kernel_rfl) (fun _ _ _ h => h) (Or.inl ⟨by rfl, ?_⟩) ?_ ?_
      rotate_left
      · intro w'
        go_simp
        with_reducible rfl
      rotate_left
      · simp only [Act.put, List.setIfInBounds_toArray, List.set_cons_zero, List.set_cons_succ, i64_w, i32_w]
        rfl
      refine done_ (by kernel_rfl) ?_

      have hcN := (blk_cell BKNw4_.out 0).trans rfl
      have hfW := blk_frozen BKWw4_.out 0
      have NT4 := Aside0.mk (blk_ne BKTw4_.out BKWw4_.out (by decide))
      clear BKWw3_ BKPw3_ BKVw3_ BKTw3_ BKNw3_ HGw3_ HWw3_ HMw3_ HFw3_ BKW BKP BKV BKT BKN HG HM HFR hcW hcP hcV hd0 hd1 hd2
      have hcW := (blk_cell BKWw4_.out 0).trans rfl
      go_wp2_with (first
        | ((with_reducible refine gate_store (t := 3) (p := 3) rfl ?_); refine store_event (t := 3) (p := 3) (v := ?vo) (w1 := w4_.setCell ⟨cW, 0, none⟩ (.int .i64 xw)) ?hg ?ho ?hn ?hr ?_; (case ho => rfl); (case hg => rfl); (case hn => rfl); (case hr => first | (go_simp; done) | (go_simp; rfl)); intro w5 hw; clear hcN hfW hcW;
           have hFs : Fr (· = cW) w4_ w5 := (by rw [hw]; exact Fr.set_ (F := (· = cW)) (Fr.refl _ _) (Eq.refl cW) _); have BKWw5_ := Aside0.mk (show w5.heap[cW]? = some (.cells #[.int .i64 xw] 3 (0, 0)) by rw [hw]; exact blk_put BKWw4_.out 0 _ rfl);
           have BKPw5_ := Aside0.mk (hFs.blk BKPw4_.out (fun e => NWx.out.2.2.2.1 e.symm)); have BKNw5_ := Aside0.mk (hFs.blk BKNw4_.out (fun e => NWx.out.2.2.2.2 e.symm)); have BKTw5_ := Aside0.mk (hFs.blk BKTw4_.out NT4.out);
           have HWw5_ := Aside0.mk (HWw4_.out.fr hFs (fun k e => by rw [e]; exact MW.out) (fun e => NWx.out.1 e.symm) (fun e => NWx.out.2.1 e.symm)); have HMw5_ := Aside0.mk (HMw4_.out.fr hFs (fun e => NW.out e.symm)); have HGw5_ := Aside0.mk (HGw4_.out.heap (hFs.block gx HGw4_.out.lt NWx.out.2.2.1)); have HFw5_ := Aside0.mk (HFw4_.out.then_ hFs (fun i hi => .inl (.inr (.inl hi)))); clear hFs hw; have hcN := (blk_cell BKNw5_.out 0).trans rfl)
        | (refine wp_tclear _ rfl _ rfl gx ks.length (kf l fin ks) rfl HGw5_.out ?_; intro w6 hG6 hgr; clear hcN;
           have hFs : Fr (· = gx) w5 w6 := Fr.of_grown hgr (fun k e => (Option.some.inj e).symm);
           have BKWw6_ := Aside0.mk (hFs.blk BKWw5_.out (HGw5_.out.ne_cells BKWw5_.out)); have BKPw6_ := Aside0.mk (hFs.blk BKPw5_.out (HGw5_.out.ne_cells BKPw5_.out)); have BKNw6_ := Aside0.mk (hFs.blk BKNw5_.out (HGw5_.out.ne_cells BKNw5_.out)); have BKTw6_ := Aside0.mk (hFs.blk BKTw5_.out (HGw5_.out.ne_cells BKTw5_.out));
           have HWw6_ := Aside0.mk (HWw5_.out.fr hFs (fun k e => by rw [e]; exact MX.out) (HGw5_.out.ne_cells HWw5_.out.p) (HGw5_.out.ne_cells HWw5_.out.b)); have HMw6_ := Aside0.mk (HMw5_.out.fr hFs (fun e => NX.out e.symm)); have HGw6_ := Aside0.mk (show TM w6 gx ([] : List T3).length (kf l fin []) by rw [← kf_nil]; exact hG6); have HFw6_ := Aside0.mk (HFw5_.out.then_ hFs (fun i hi => .inl (.inr (.inr hi)))); clear hFs hgr hG6))
      · have hne : (wrap64 (lf l fin ⟨d, tl, ts⟩ + xc) != want) = true := by assumption
        first | go_end0 | ((try simp only [Exit.inBlock, Exit.then]); refine bodyPost_ret (results_none rfl _ _ _) rfl ?_)
        have e : stepN l fin want (wi, ks) ⟨xw, xc, ⟨d, tl, ts⟩⟩ = (wi, ks) := if_pos (.inr (.inr (by simpa using hne)))
        rw [e]
        exact ⟨rfl, HMw4_.out, BKWw4_.out, HGw4_.out, HFw4_.out⟩
      · have c4 : (xw : Int) < wi := by assumption
        have hne : (wrap64 (lf l fin ⟨d, tl, ts⟩ + xc) != want) = false := by assumption
        have hns : ¬ skipN l fin want (wi, ks) ⟨xw, xc, ⟨d, tl, ts⟩⟩ := by
          rintro (h | h | h)
          · exact absurd h (by simpa using c1)
          · exact absurd h (by simpa using c2)
          · exact h (by simpa using hne)
        have e : stepN l fin want (wi, ks) ⟨xw, xc, ⟨d, tl, ts⟩⟩ = ((xw : Int), addK [] ⟨d, tl, ts⟩) := (if_neg hns).trans (by unfold baseK; rw [if_pos c4])
        have hcN := (blk_cell BKNw6_.out 0).trans rfl
        have hcP := (blk_cell BKPw6_.out 0).trans rfl
        have hd0 := (blk_cell BKTw6_.out 0).trans rfl
        have hd1 := (blk_cell BKTw6_.out 1).trans rfl
        have hd2 := (blk_cell BKTw6_.out 2).trans rfl
        refine start_ (n := 6) (S := fun w' => w'.cell? ⟨cP, 0, none⟩ = some (.pointer (some ⟨gp, 0, none⟩)) ∧ w'.cell? ⟨cN, 0, none⟩ = some (.map (some gx)) ∧ w'.cell? ⟨gt, 0, none⟩ = some (.int .i64 d) ∧ w'.cell? ⟨gt, 1, none⟩ = some (.int .i64 tl) ∧ w'.cell? ⟨gt, 2, none⟩ = some (.int .i64 ts)) (ds := [5]) #[false, false, false, false, false, false] (by kernel_rfl) rfl rfl ⟨hcP, hcN, hd0, hd1, hd2⟩ (fun hHeld => ?_)
        refine take_ (i := 0) (N := some 33) (v := ?_) (a' := ?_) #[true, false, false, false, false, false] rfl rfl (by kernel_rfl) (fun _ _ _ h => h) (Or.inl ⟨by rfl, ?_⟩) hHeld ?_ ?_
        rotate_left
        · rintro w' ⟨s0, s1, s2, s3, s4⟩
          go_simp
          with_reducible rfl
        rotate_left
        · simp only [Act.put, List.setIfInBounds_toArray, List.set_cons_zero, List.set_cons_succ, i64_w, i32_w]
          rfl
        refine take_ (i := 1) (N := some 34) (v := ?_) (a' := ?_) #[true, true, false, false, false, false] rfl rfl (by kernel_rfl) (fun _ _ _ h => h) (Or.inl ⟨by rfl, ?_⟩) hHeld ?_ ?_
        rotate_left
        · rintro w' ⟨s0, s1, s2, s3, s4⟩
          go_simp
          with_reducible rfl
        rotate_left
        · simp only [Act.put, List.setIfInBounds_toArray, List.set_cons_zero, List.set_cons_succ, i64_w, i32_w]
          rfl
        refine take_ (i := 2) (N := some 35) (v := ?_) (a' := ?_) #[true, true, true, false, false, false] rfl rfl (by kernel_rfl) (fun _ _ _ h => h) (Or.inl ⟨by rfl, ?_⟩) hHeld ?_ ?_
        rotate_left
        · rintro w' ⟨s0, s1, s2, s3, s4⟩
          go_simp
          with_reducible rfl
        rotate_left
        · simp only [Act.put, List.setIfInBounds_toArray, List.set_cons_zero, List.set_cons_succ, i64_w, i32_w]
          rfl
        refine take_ (i := 3) (N := some 36) (v := ?_) (a' := ?_) #[true, true, true, true, false, false] rfl rfl (by kernel_rfl) (fun _ _ _ h => h) (Or.inl ⟨by rfl, ?_⟩) hHeld ?_ ?_
        rotate_left
        · rintro w' ⟨s0, s1, s2, s3, s4⟩
          go_simp
          with_reducible rfl
        rotate_left
        · simp only [Act.put, List.setIfInBounds_toArray, List.set_cons_zero, List.set_cons_succ, i64_w, i32_w]
          rfl
        refine one_ (i := 4) (N := some 37) #[true, true, true, true, true, false] rfl rfl (by kernel_rfl) (by decide) (fun K hK => ?_)
        refine goes_ Try.func123 (by kernel_rfl) rfl #[.pointer (some ⟨gp, 0, none⟩), .agg #[.int .i64 d, .int .i64 tl, .int .i64 ts]] (by rfl) rfl rfl (by simp only [List.map_toArray, List.map_cons, List.map_nil]; rfl) ?_
        refine (left_ w0 gp gb gm A c l fin hn HROW.out 10 ⟨d, tl, ts⟩ _ HTC.out HT.out (PW.below (w' := w6.drew) HWw6_.out (by repeat first | exact Below.refl _ _ | refine pw_below_drewN ?_ _ | refine Below.drew ?_)) (HMw6_.out.below (by repeat first | exact Below.refl _ _ | refine pw_below_drewN ?_ _ | refine Below.drew ?_))).mono ?_
        rintro e w7 ⟨rfl, hM_, hF_⟩
        refine ⟨_, rfl, ?_⟩
        have BKW7 := Aside0.mk (hF_.blk (show w6.drew.heap[_]? = _ from BKWw6_.out) NW.out)
        have BKP7 := Aside0.mk (hF_.blk (show w6.drew.heap[_]? = _ from BKPw6_.out) NP.out)
        have BKN7 := Aside0.mk (hF_.blk (show w6.drew.heap[_]? = _ from BKNw6_.out) NN.out)
        have BKT7 := Aside0.mk (hF_.blk (show w6.drew.heap[_]? = _ from BKTw6_.out) NTT.out)
        have HG7 := Aside0.mk (TM.heap (w := w6.drew) HGw6_.out (hF_.block gx HGw6_.out.lt NX.out))
        have HF7 := Aside0.mk ((HFw6_.out.trans (Fr.of_below (w1 := w6.drew) (by repeat first | exact Below.refl _ _ | refine pw_below_drewN ?_ _ | refine Below.drew ?_))).then_ hF_ (fun i hi => .inl (.inl hi)))
        have HM7 := Aside0.mk hM_
        clear hM_ hF_
        refine hK.out _ _ ⟨(blk_cell BKP7.out 0).trans rfl, (blk_cell BKN7.out 0).trans rfl, (blk_cell BKT7.out 0).trans rfl, (blk_cell BKT7.out 1).trans rfl, (blk_cell BKT7.out 2).trans rfl⟩ (fun hHeld => ?_)
        clear hK K
        refine norm_ (a' := ?_) ?_ ?_
        rotate_left
        · show Act.put _ (some 37) _ = _
          simp only [Act.put, List.setIfInBounds_toArray, List.set_cons_zero, List.set_cons_succ, i64_w, i32_w]
          rfl
        refine last_ (i := 5) (N := none) #[true, true, true, true, true, true] rfl rfl (by kernel_rfl) (by decide) (fun K hK => ?_)
        obtain ⟨w8, hrun8, hG8, hT8⟩ := HG7.out.put_any (Nat.lt_of_le_of_lt (tk_few hn (KOk.nil l.length).nd (KOk.nil l.length).tk) (by decide)) (HT.out.ok hn) (lf_wf l fin ⟨d, tl, ts⟩) (addK [] ⟨d, tl, ts⟩).length (addK_len l fin [] ⟨d, tl, ts⟩)
        rw [kf_add] at hG8
        refine tput_ (b := gx) (tv := .agg #[.int .i64 d, .int .i64 tl, .int .i64 ts]) (yv := .int .i64 (lf l fin ⟨d, tl, ts⟩)) (by rfl) rfl rfl rfl rfl rfl hrun8 ?_
        refine hK.out _ _ ?_
        clear hK K
        refine done_ (by kernel_rfl) ?_

        have hFs : Fr (· = gx) w7 w8 := Fr.of_grown hT8.grown (fun k e => (Option.some.inj e).symm)
        first | go_end0 | ((try simp only [Exit.inBlock, Exit.then]); refine bodyPost_ret (results_none rfl _ _ _) rfl ?_)
        rw [e]
        exact ⟨rfl, HM7.out.fr hFs (fun e => NX.out e.symm), hFs.blk BKW7.out (HG7.out.ne_cells BKW7.out), hG8, HF7.out.then_ hFs (fun i hi => .inl (.inr (.inr hi)))⟩
      · have c4 : ¬ (xw : Int) < wi := by
          have h : wi ≤ (xw : Int) := by assumption
          omega
        have hne : (wrap64 (lf l fin ⟨d, tl, ts⟩ + xc) != want) = false := by assumption
        have hns : ¬ skipN l fin want (wi, ks) ⟨xw, xc, ⟨d, tl, ts⟩⟩ := by
          rintro (h | h | h)
          · exact absurd h (by simpa using c1)
          · exact absurd h (by simpa using c2)
          · exact h (by simpa using hne)
        have ew : (xw : Int) = wi := by
          have h : ¬ wi < (xw : Int) := by simpa using c1
          omega
        have e : stepN l fin want (wi, ks) ⟨xw, xc, ⟨d, tl, ts⟩⟩ = (wi, addK ks ⟨d, tl, ts⟩) := (if_neg hns).trans (by unfold baseK; rw [if_neg c4, ew])
        clear ew
        have hcP := (blk_cell BKPw4_.out 0).trans rfl
        have hd0 := (blk_cell BKTw4_.out 0).trans rfl
        have hd1 := (blk_cell BKTw4_.out 1).trans rfl
        have hd2 := (blk_cell BKTw4_.out 2).trans rfl
        refine start_ (n := 6) (S := fun w' => w'.cell? ⟨cP, 0, none⟩ = some (.pointer (some ⟨gp, 0, none⟩)) ∧ w'.cell? ⟨cN, 0, none⟩ = some (.map (some gx)) ∧ w'.cell? ⟨gt, 0, none⟩ = some (.int .i64 d) ∧ w'.cell? ⟨gt, 1, none⟩ = some (.int .i64 tl) ∧ w'.cell? ⟨gt, 2, none⟩ = some (.int .i64 ts)) (ds := [5]) #[false, false, false, false, false, false] (by kernel_rfl) rfl rfl ⟨hcP, hcN, hd0, hd1, hd2⟩ (fun hHeld => ?_)
        refine take_ (i := 0) (N := some 33) (v := ?_) (a' := ?_) #[true, false, false, false, false, false] rfl rfl (by kernel_rfl) (fun _ _ _ h => h) (Or.inl ⟨by rfl, ?_⟩) hHeld ?_ ?_
        rotate_left
        · rintro w' ⟨s0, s1, s2, s3, s4⟩
          go_simp
          with_reducible rfl
        rotate_left
        · simp only [Act.put, List.setIfInBounds_toArray, List.set_cons_zero, List.set_cons_succ, i64_w, i32_w]
          rfl
        refine take_ (i := 1) (N := some 34) (v := ?_) (a' := ?_) #[true, true, false, false, false, false] rfl rfl (by kernel_rfl) (fun _ _ _ h => h) (Or.inl ⟨by rfl, ?_⟩) hHeld ?_ ?_
        rotate_left
        · rintro w' ⟨s0, s1, s2, s3, s4⟩
          go_simp
          with_reducible rfl
        rotate_left
        · simp only [Act.put, List.setIfInBounds_toArray, List.set_cons_zero, List.set_cons_succ, i64_w, i32_w]
          rfl
        refine take_ (i := 2) (N := some 35) (v := ?_) (a' := ?_) #[true, true, true, false, false, false] rfl rfl (by kernel_rfl) (fun _ _ _ h => h) (Or.inl ⟨by rfl, ?_⟩) hHeld ?_ ?_
        rotate_left
        · rintro w' ⟨s0, s1, s2, s3, s4⟩
          go_simp
          with_reducible rfl
        rotate_left
        · simp only [Act.put, List.setIfInBounds_toArray, List.set_cons_zero, List.set_cons_succ, i64_w, i32_w]
          rfl
        refine take_ (i := 3) (N := some 36) (v := ?_) (a' := ?_) #[true, true, true, true, false, false] rfl rfl (by kernel_rfl) (fun _ _ _ h => h) (Or.inl ⟨by rfl, ?_⟩) hHeld ?_ ?_
        rotate_left
        · rintro w' ⟨s0, s1, s2, s3, s4⟩
          go_simp
          with_reducible rfl
        rotate_left
        · simp only [Act.put, List.setIfInBounds_toArray, List.set_cons_zero, List.set_cons_succ, i64_w, i32_w]
          rfl
        refine one_ (i := 4) (N := some 37) #[true, true, true, true, true, false] rfl rfl (by kernel_rfl) (by decide) (fun K hK => ?_)
        refine goes_ Try.func123 (by kernel_rfl) rfl #[.pointer (some ⟨gp, 0, none⟩), .agg #[.int .i64 d, .int .i64 tl, .int .i64 ts]] (by rfl) rfl rfl (by simp only [List.map_toArray, List.map_cons, List.map_nil]; rfl) ?_
        refine (left_ w0 gp gb gm A c l fin hn HROW.out 10 ⟨d, tl, ts⟩ _ HTC.out HT.out (PW.below (w' := w4_.drew) HWw4_.out (by repeat first | exact Below.refl _ _ | refine pw_below_drewN ?_ _ | refine Below.drew ?_)) (HMw4_.out.below (by repeat first | exact Below.refl _ _ | refine pw_below_drewN ?_ _ | refine Below.drew ?_))).mono ?_
        rintro e w7 ⟨rfl, hM_, hF_⟩
        refine ⟨_, rfl, ?_⟩
        have BKW7 := Aside0.mk (hF_.blk (show w4_.drew.heap[_]? = _ from BKWw4_.out) NW.out)
        have BKP7 := Aside0.mk (hF_.blk (show w4_.drew.heap[_]? = _ from BKPw4_.out) NP.out)
        have BKN7 := Aside0.mk (hF_.blk (show w4_.drew.heap[_]? = _ from BKNw4_.out) NN.out)
        have BKT7 := Aside0.mk (hF_.blk (show w4_.drew.heap[_]? = _ from BKTw4_.out) NTT.out)
        have HG7 := Aside0.mk (TM.heap (w := w4_.drew) HGw4_.out (hF_.block gx HGw4_.out.lt NX.out))
        have HF7 := Aside0.mk ((HFw4_.out.trans (Fr.of_below (w1 := w4_.drew) (by repeat first | exact Below.refl _ _ | refine pw_below_drewN ?_ _ | refine Below.drew ?_))).then_ hF_ (fun i hi => .inl (.inl hi)))
        have HM7 := Aside0.mk hM_
        clear hM_ hF_
        refine hK.out _ _ ⟨(blk_cell BKP7.out 0).trans rfl, (blk_cell BKN7.out 0).trans rfl, (blk_cell BKT7.out 0).trans rfl, (blk_cell BKT7.out 1).trans rfl, (blk_cell BKT7.out 2).trans rfl⟩ (fun hHeld => ?_)
        clear hK K
        refine norm_ (a' := ?_) ?_ ?_
        rotate_left
        · show Act.put _ (some 37) _ = _
          simp only [Act.put, List.setIfInBounds_toArray, List.set_cons_zero, List.set_cons_succ, i64_w, i32_w]
          rfl
        refine last_ (i := 5) (N := none) #[true, true, true, true, true, true] rfl rfl (by kernel_rfl) (by decide) (fun K hK => ?_)
        obtain ⟨w8, hrun8, hG8, hT8⟩ := HG7.out.put_any (Nat.lt_of_le_of_lt (tk_few hn HKS.out.nd HKS.out.tk) (by decide)) (HT.out.ok hn) (lf_wf l fin ⟨d, tl, ts⟩) (addK ks ⟨d, tl, ts⟩).length (addK_len l fin ks ⟨d, tl, ts⟩)
        rw [kf_add] at hG8
        refine tput_ (b := gx) (tv := .agg #[.int .i64 d, .int .i64 tl, .int .i64 ts]) (yv := .int .i64 (lf l fin ⟨d, tl, ts⟩)) (by rfl) rfl rfl rfl rfl rfl hrun8 ?_
        refine hK.out _ _ ?_
        clear hK K
        refine done_ (by kernel_rfl) ?_

        have hFs : Fr (· = gx) w7 w8 := Fr.of_grown hT8.grown (fun k e => (Option.some.inj e).symm)
        first | go_end0 | ((try simp only [Exit.inBlock, Exit.then]); refine bodyPost_ret (results_none rfl _ _ _) rfl ?_)
        rw [e]
        exact ⟨rfl, HM7.out.fr hFs (fun e => NX.out e.symm), hFs.blk BKW7.out (HG7.out.ne_cells BKW7.out), hG8, HF7.out.then_ hFs (fun i hi => .inl (.inr (.inr hi)))⟩
end Go.Proofs.Ytaapbnhggfmlpaa.P
end
section
set_option linter.unusedVariables false
namespace Go.Proofs.Ytaapbnhggfmlpaa.A
open Go.RowKit Go.Proofs.Ytaapbnhggfmlpaa.P Go.Proofs.YtaapbnhggfmlpaaW.PrintWords Go.Proofs.Ytaapbnhggfmlpaa.M
def Gw (l : List (List Int)) (fin want : Int) (x : Itm) : Prop := 0 ≤ lf l fin x.t ∧ wrap64 (lf l fin x.t + x.c) = want
structure NX (n : Nat) (G : Itm → Prop) (s : Int × List T3) : Prop where
  le : s.1 ≤ n
  min : ∀ x, G x → s.1 ≤ x.w
  at_ : s.1 < n → ∃ x, G x ∧ (x.w : Int) = s.1
  mem : ∀ u, u ∈ s.2 ↔ ∃ x, G x ∧ (x.w : Int) = s.1 ∧ x.t = u
  lt : ∀ x, G x → x.w < n
theorem mem_addK (ks : List T3) (t u : T3) : u ∈ addK ks t ↔ u ∈ ks ∨ u = t := by
  unfold addK
  by_cases h : t ∈ ks
  · rw [if_pos h]
    constructor
    · exact .inl
    · rintro (h' | rfl)
      · exact h'
      · exact h
  · rw [if_neg h, List.mem_cons]
    exact Or.comm
theorem NX.start (n : Nat) : NX n (fun _ => False) ((n : Int), []) :=
  ⟨Int.le_refl _, fun _ h => h.elim, fun h => absurd h (Int.lt_irrefl _), fun u => ⟨fun h => absurd h (by simp), fun ⟨_, h, _⟩ => h.elim⟩, fun _ h => h.elim⟩
theorem NX.congr {n : Nat} {G G' : Itm → Prop} {s : Int × List T3} (h : NX n G s) (e : ∀ x, G x ↔ G' x) : NX n G' s :=
  ⟨h.le, fun x hx => h.min x ((e x).2 hx), fun hl => let ⟨x, a, b⟩ := h.at_ hl; ⟨x, (e x).1 a, b⟩, fun u => (h.mem u).trans ⟨fun ⟨x, a, b⟩ => ⟨x, (e x).1 a, b⟩, fun ⟨x, a, b⟩ => ⟨x, (e x).2 a, b⟩⟩, fun x hx => h.lt x ((e x).2 hx)⟩
theorem NX.step {l : List (List Int)} {fin want : Int} {n : Nat} {G : Itm → Prop} {s : Int × List T3} (h : NX n G s) {x : Itm} (hx : x.w < n) : NX n (fun y => G y ∨ (y = x ∧ Gw l fin want y)) (stepN l fin want s x) := by
  by_cases hs : skipN l fin want s x
  · rw [show stepN l fin want s x = s from if_pos hs]
    by_cases hg : Gw l fin want x
    · have hlt : s.1 < x.w := by
        rcases hs with h1 | h1 | h1
        · exact h1
        · exact absurd hg.1 (by omega)
        · exact absurd hg.2 h1
      refine ⟨h.le, ?_, ?_, ?_, ?_⟩
      · rintro y (hy | ⟨rfl, _⟩)
        · exact h.min y hy
        · omega
      · intro hl
        obtain ⟨y, hy, e⟩ := h.at_ hl
        exact ⟨y, .inl hy, e⟩
      · intro u
        rw [h.mem u]
        constructor
        · rintro ⟨y, hy, e⟩
          exact ⟨y, .inl hy, e⟩
        · rintro ⟨y, hy | ⟨rfl, _⟩, e⟩
          · exact ⟨y, hy, e⟩
          · omega
      · rintro y (hy | ⟨rfl, _⟩)
        · exact h.lt y hy
        · exact hx
    · refine h.congr fun y => ⟨.inl, ?_⟩
      rintro (hy | ⟨rfl, hy⟩)
      · exact hy
      · exact absurd hy hg
  · rw [show stepN l fin want s x = _ from if_neg hs]
    have h1 : ¬ s.1 < x.w := fun h => hs (.inl h)
    have h2 : ¬ lf l fin x.t < 0 := fun h => hs (.inr (.inl h))
    have h3 : wrap64 (lf l fin x.t + x.c) = want := Classical.byContradiction fun h => hs (.inr (.inr h))
    have hg : Gw l fin want x := ⟨by omega, h3⟩
    refine ⟨?_, ?_, ?_, ?_, ?_⟩
    · show (x.w : Int) ≤ n
      omega
    · rintro y (hy | ⟨rfl, _⟩)
      · have := h.min y hy
        show (x.w : Int) ≤ y.w
        omega
      · exact Int.le_refl _
    · intro _
      exact ⟨x, .inr ⟨rfl, hg⟩, rfl⟩
    · intro u
      show u ∈ addK (baseK s x) x.t ↔ _
      rw [mem_addK]
      by_cases c : (x.w : Int) < s.1
      · rw [show baseK s x = [] from if_pos c]
        constructor
        · rintro (hu | rfl)
          · cases hu
          · exact ⟨x, .inr ⟨rfl, hg⟩, rfl, rfl⟩
        · rintro ⟨y, hy | ⟨rfl, _⟩, e1, e2⟩
          · have := h.min y hy
            simp only at e1
            omega
          · exact .inr e2.symm
      · rw [show baseK s x = s.2 from if_neg c]
        have e : (x.w : Int) = s.1 := by omega
        rw [h.mem u]
        constructor
        · rintro (⟨y, hy, e1, e2⟩ | rfl)
          · exact ⟨y, .inl hy, by simp only; omega, e2⟩
          · exact ⟨x, .inr ⟨rfl, hg⟩, rfl, rfl⟩
        · rintro ⟨y, hy | ⟨rfl, _⟩, e1, e2⟩
          · exact .inl ⟨y, hy, by simp only at e1; omega, e2⟩
          · exact .inr e2.symm
    · rintro y (hy | ⟨rfl, _⟩)
      · exact h.lt y hy
      · exact hx
theorem NX.fold {l : List (List Int)} {fin want : Int} {n : Nat} (xs : List Itm) : ∀ {G : Itm → Prop} {s : Int × List T3}, NX n G s → (∀ x ∈ xs, x.w < n) → NX n (fun y => G y ∨ (y ∈ xs ∧ Gw l fin want y)) (xs.foldl (stepN l fin want) s) := by
  induction xs with
  | nil => exact fun h _ => h.congr fun y => ⟨.inl, fun h => h.elim id (fun h => by cases h.1)⟩
  | cons x xs ih =>
    intro G s h hx
    rw [List.foldl_cons]
    refine (ih (h.step (hx x (List.mem_cons_self ..))) fun y hy => hx y (List.mem_cons_of_mem _ hy)).congr fun y => ?_
    rw [List.mem_cons]
    constructor
    · rintro ((a | ⟨a, b⟩) | ⟨a, b⟩)
      · exact .inl a
      · exact .inr ⟨.inl a, b⟩
      · exact .inr ⟨.inr a, b⟩
    · rintro (a | ⟨a | a, b⟩)
      · exact .inl (.inl a)
      · exact .inl (.inr ⟨a, b⟩)
      · exact .inr ⟨a, b⟩
theorem NX.unique {n : Nat} {G : Itm → Prop} {s s' : Int × List T3} (h : NX n G s) (h' : NX n G s') : s.1 = s'.1 ∧ ∀ u, u ∈ s.2 ↔ u ∈ s'.2 := by
  have e : s.1 = s'.1 := by
    have h1 : s'.1 ≤ s.1 := by
      by_cases c : s.1 < n
      · obtain ⟨x, hx, e⟩ := h.at_ c
        have := h'.min x hx
        omega
      · have := h'.le
        omega
    have h2 : s.1 ≤ s'.1 := by
      by_cases c : s'.1 < n
      · obtain ⟨x, hx, e⟩ := h'.at_ c
        have := h.min x hx
        omega
      · have := h.le
        omega
    omega
  refine ⟨e, fun u => ?_⟩
  rw [h.mem u, h'.mem u, e]
/-- Good for one of some tasks. -/
def Gd (l : List (List Int)) (fin : Int) (K : T3 → Prop) (x : Itm) : Prop := ∃ t, K t ∧ x ∈ itms l fin t l.length ∧ Gw l fin (lf l fin t) x
def nextF (l : List (List Int)) (fin : Int) (ks : List T3) : Int × List T3 := ks.foldl (fun s t => (itms l fin t l.length).foldl (stepN l fin (lf l fin t)) s) ((l.length : Int), [])
theorem nextF_nx {l : List (List Int)} {fin : Int} (hn : l.length ≤ 9) {ks : List T3} (hk : ∀ t ∈ ks, Tk l.length t) : NX l.length (Gd l fin (· ∈ ks)) (nextF l fin ks) := by
  suffices h : ∀ (us : List T3) (G : Itm → Prop) (s : Int × List T3), (∀ t ∈ us, Tk l.length t) → NX l.length G s → NX l.length (fun x => G x ∨ Gd l fin (· ∈ us) x) (us.foldl (fun s t => (itms l fin t l.length).foldl (stepN l fin (lf l fin t)) s) s) from
    (h ks _ _ hk (NX.start _)).congr fun x => by simp
  intro us
  induction us with
  | nil => exact fun G s _ h => h.congr fun y => ⟨.inl, fun h => h.elim id (fun ⟨t, h, _⟩ => by cases h)⟩
  | cons u us ih =>
    intro G s hk h
    rw [List.foldl_cons]
    refine (ih _ _ (fun t ht => hk t (List.mem_cons_of_mem _ ht)) (h.fold (itms l fin u l.length) fun x hx => (itms_ok hn (hk u (List.mem_cons_self ..)) x hx).2.2.1)).congr fun x => ?_
    constructor
    · rintro ((a | ⟨a, b⟩) | ⟨t, a, b⟩)
      · exact .inl a
      · exact .inr ⟨u, List.mem_cons_self .., a, b⟩
      · exact .inr ⟨t, List.mem_cons_of_mem _ a, b⟩
    · rintro (a | ⟨t, a, b, c⟩)
      · exact .inl (.inl a)
      · rcases List.mem_cons.1 a with rfl | a
        · exact .inl (.inr ⟨b, c⟩)
        · exact .inr ⟨t, a, b, c⟩
theorem Gd.congr {l : List (List Int)} {fin : Int} {K K' : T3 → Prop} (e : ∀ t, K t ↔ K' t) (x : Itm) : Gd l fin K x ↔ Gd l fin K' x :=
  ⟨fun ⟨t, a, b⟩ => ⟨t, (e t).1 a, b⟩, fun ⟨t, a, b⟩ => ⟨t, (e t).2 a, b⟩⟩
theorem nextF_tk {l : List (List Int)} {fin : Int} (hn : l.length ≤ 9) {ks : List T3} (hk : ∀ t ∈ ks, Tk l.length t) : ∀ u ∈ (nextF l fin ks).2, Tk l.length u := by
  intro u hu
  obtain ⟨x, ⟨t, ht, hx, _⟩, _, rfl⟩ := ((nextF_nx hn hk).mem u).1 hu
  exact (itms_ok hn (hk t ht) x hx).1
def ordR (l : List (List Int)) (fin : Int) : Nat → List T3 → List Int → List Int
  | 0, _, out => out
  | k + 1, ks, out => if out.length < l.length then ordR l fin k (nextF l fin ks).2 (out ++ [(nextF l fin ks).1]) else out
/-- The order that is found depends on the set of tasks alone. -/
theorem ordR_set {l : List (List Int)} {fin : Int} (hn : l.length ≤ 9) : ∀ (k : Nat) (ks ks' : List T3) (out : List Int), (∀ t ∈ ks, Tk l.length t) → (∀ t, t ∈ ks ↔ t ∈ ks') → ordR l fin k ks out = ordR l fin k ks' out := by
  intro k
  induction k with
  | zero => exact fun _ _ _ _ _ => rfl
  | succ k ih =>
    intro ks ks' out hk e
    have hk' : ∀ t ∈ ks', Tk l.length t := fun t ht => hk t ((e t).2 ht)
    obtain ⟨e1, e2⟩ := (nextF_nx (fin := fin) hn hk).unique ((nextF_nx (fin := fin) hn hk').congr (Gd.congr fun t => (e t).symm))
    unfold ordR
    rw [e1, ih _ _ _ (nextF_tk hn hk) e2]
def begT (s : Int) (w : Nat) : T3 := ⟨wrap64 (2 ^ w), w, s⟩
def begF (l : List (List Int)) (fin s : Int) (ws : List Nat) : Int × Nat := ws.foldl (fun b w => if 0 ≤ lf l fin (begT s w) ∧ (b.1 < 0 ∨ lf l fin (begT s w) < b.1) then (lf l fin (begT s w), w) else b) (-1, 0)
def orderF (l : List (List Int)) (fin s : Int) (ws : List Nat) : List Int × Int × Bool :=
  if (begF l fin s ws).1 < 0 then ([], 0, false) else (ordR l fin 10 [begT s (begF l fin s ws).2] [((begF l fin s ws).2 : Int)], (begF l fin s ws).1, true)
end Go.Proofs.Ytaapbnhggfmlpaa.A
end
section
set_option linter.unusedVariables false
namespace Go.Proofs.Ytaapbnhggfmlpaa.M
open Go.RowKit
theorem TM.fr {F : Nat → Prop} {w w' : World} {b n : Nat} {f : T3 → Option Int} (h : TM w b n f) (hf : Fr F w w') (hn : ¬ F b) : TM w' b n f := h.heap (hf.block b h.lt hn)
theorem TM.below {w w' : World} {b n : Nat} {f : T3 → Option Int} (h : TM w b n f) (hb : Below w.heap.size w w') : TM w' b n f := h.heap (hb.block b h.lt)
theorem RG.fr {F : Nat → Prop} {w w' : World} {b r n cnt : Nat} {f : T3 → Option Int} {S : T3 → Prop} (h : RG w b r n f S cnt) (hf : Fr F w w') (hb : ¬ F b) (hr : ¬ F r) : RG w' b r n f S cnt :=
  h.heap (hf.block b h.tm.lt hb) (hf.block r h.lt hr)
theorem RG.below {w w' : World} {b r n cnt : Nat} {f : T3 → Option Int} {S : T3 → Prop} (h : RG w b r n f S cnt) (hb : Below w.heap.size w w') : RG w' b r n f S cnt :=
  h.heap (hb.block b h.tm.lt) (hb.block r h.lt)
end Go.Proofs.Ytaapbnhggfmlpaa.M
namespace Go.Proofs.Ytaapbnhggfmlpaa.P
open Go.RowKit Go.Proofs.YtaapbnhggfmlpaaW.PrintWords Go.Proofs.YtaapbnhggfmlpaaW.PrintLast Go.Proofs.YtaapbnhggfmlpaaW.PrintMore
open Go.Proofs.Ytaapbnhggfmlpaa.M Go.Proofs.Ytaapbnhggfmlpaa.A
structure OS (w0 w : World) (gp gb gm g3 : Nat) (A : Option Addr) (c : Nat) (l : List (List Int)) (fin : Int) (wr : World) : Prop where
  pw : PW w0 gp gb gm A c l fin wr
  mem : Mem l fin gm wr
  fr : Fr (· = gm) w wr
  b3 : wr.heap[g3]? = some (.cells #[.pointer (some ⟨gp, 0, none⟩)] 147 (0, 0))
  lw : w0.heap.size ≤ w.heap.size
  lp : gp < w.heap.size
  lb : gb < w.heap.size
  lm : gm < w.heap.size
  l3 : w.heap.size ≤ g3
section
variable {w0 w w1 w2 : World} {gp gb gm g3 : Nat} {A : Option Addr} {c : Nat} {l : List (List Int)} {fin : Int} {F : Nat → Prop}
theorem OS.step (h : OS w0 w gp gb gm g3 A c l fin w1) (hf : Fr F w1 w2) (hF : ∀ k, F k → k = gm ∨ (w.heap.size ≤ k ∧ k ≠ g3)) (hM : Mem l fin gm w2) : OS w0 w gp gb gm g3 A c l fin w2 :=
  ⟨h.pw.fr hf (fun k hk => (hF k hk).elim (fun e => e ▸ h.pw.ge) (fun e => Nat.le_trans h.lw e.1)) (fun hk => (hF _ hk).elim h.pw.np (fun e => by have := h.lp; omega)) (fun hk => (hF _ hk).elim h.pw.nb (fun e => by have := h.lb; omega)),
   hM, Fr.then_ h.fr hf (fun k hk => (hF k hk).elim .inl (fun e => .inr e.1)), hf.blk h.b3 (fun hk => (hF _ hk).elim (fun e => by have := h.lm; have := h.l3; omega) (fun e => e.2 rfl)), h.lw, h.lp, h.lb, h.lm, h.l3⟩
theorem OS.new (h : OS w0 w gp gb gm g3 A c l fin w1) (hf : Fr F w1 w2) (hF : ∀ k, F k → w.heap.size ≤ k ∧ k ≠ g3) : OS w0 w gp gb gm g3 A c l fin w2 :=
  h.step hf (fun k hk => .inr (hF k hk)) (h.mem.fr hf (fun hk => by have := hF _ hk; have := h.lm; omega))
theorem OS.below (h : OS w0 w gp gb gm g3 A c l fin w1) (hb : Below w1.heap.size w1 w2) : OS w0 w gp gb gm g3 A c l fin w2 :=
  h.new (F := fun _ => False) (Fr.of_below hb) (fun _ hk => hk.elim)
theorem R_fr {F : Nat → Prop} {w w' : World} {base : Nat} {v : Value} {xs : List Int} (h : Kd.R (Kd.int .i64) 2 w base (fun _ => True) v xs) (hf : Fr F w w') (hF : ∀ k cs, F k → w.heap[k]? ≠ some (.cells cs 2 (0, 0))) : Kd.R (Kd.int .i64) 2 w' base (fun _ => True) v xs := by
  refine Kd.R_mono (Kd.R_step (Kd.R_bound h) fun k hk hlt => hf.block k hlt fun hFk => ?_) (fun _ _ => trivial)
  obtain ⟨_, _, _, q, hq, cs, hcs⟩ := hk
  have e : q = 2 := by simpa [Kd.int, Kd.scalar] using hq
  subst e
  exact hF k cs hFk hcs
theorem Mem.ne_cells {w : World} {gm : Nat} (h : Mem l fin gm w) {g : Nat} {t : TypeId} {cs : Array Value} {z : Nat × Nat} (hg : w.heap[g]? = some (.cells cs t z)) : g ≠ gm := by
  obtain ⟨ks, tb, _, _, _, h⟩ := h
  exact h.ne_cells hg
theorem kf_one (l : List (List Int)) (fin : Int) (t : T3) {b : Int} (h : b = lf l fin t) : (fun u => if u = t then some b else none) = kf l fin [t] := by
  funext u
  unfold kf
  by_cases e : u = t
  · subst e
    simp [h]
  · simp [e]
end
end Go.Proofs.Ytaapbnhggfmlpaa.P
namespace Go.Proofs.Ytaapbnhggfmlpaa.M
open Go.Maps Go.RowKit
theorem RG.not_cells {w : World} {b r n cnt : Nat} {f : T3 → Option Int} {S : T3 → Prop} (h : RG w b r n f S cnt) {cs : Array Value} {t : TypeId} {z : Nat × Nat} : w.heap[r]? ≠ some (.cells cs t z) := by
  obtain ⟨D, left, ⟨es, clock, since, seen, c0, k1, F, k2, k3, k4, k5⟩, h1⟩ := h
  rw [k4]
  intro e
  cases e
end Go.Proofs.Ytaapbnhggfmlpaa.M
end
section
set_option linter.unusedVariables false
namespace Go.Proofs.Ytaapbnhggfmlpaa.A
open Go.RowKit Go.Proofs.Ytaapbnhggfmlpaa.P Go.Proofs.YtaapbnhggfmlpaaW.PrintWords Go.Proofs.Ytaapbnhggfmlpaa.M
theorem KOk.fold {l : List (List Int)} {fin want : Int} (xs : List Itm) : ∀ {s : Int × List T3}, KOk l.length s.2 → (∀ x ∈ xs, Tk l.length x.t) → KOk l.length (xs.foldl (stepN l fin want) s).2 := by
  induction xs with
  | nil => exact fun h _ => h
  | cons x xs ih =>
    intro s h hx
    rw [List.foldl_cons]
    exact ih (h.step (hx x (List.mem_cons_self ..))) fun y hy => hx y (List.mem_cons_of_mem _ hy)
theorem Gd.take {l : List (List Int)} {fin : Int} {ks : List T3} {S : T3 → Prop} {t : T3} (ht : t ∈ ks) (x : Itm) :
    (Gd l fin (fun u => u ∈ ks ∧ ¬ S u) x ∨ (x ∈ itms l fin t l.length ∧ Gw l fin (lf l fin t) x)) ↔ Gd l fin (fun u => u ∈ ks ∧ ¬ (S u ∧ u ≠ t)) x := by
  constructor
  · rintro (⟨u, ⟨h1, h2⟩, h3⟩ | h)
    · exact ⟨u, ⟨h1, fun h => h2 h.1⟩, h3⟩
    · exact ⟨t, ⟨ht, fun h => h.2 rfl⟩, h⟩
  · rintro ⟨u, ⟨h1, h2⟩, h3⟩
    by_cases e : u = t
    · subst e
      exact .inr h3
    · exact .inl ⟨u, ⟨h1, fun h => h2 ⟨h, e⟩⟩, h3⟩
theorem ordR_next {l : List (List Int)} {fin : Int} (hn : l.length ≤ 9) {ks sk : List T3} {S : T3 → Prop} {si : Int} (hk : KOk l.length ks) (hS : ∀ t, t.ok → ¬ S t)
    (h : NX l.length (Gd l fin (fun t => t ∈ ks ∧ ¬ S t)) (si, sk)) (kk : Nat) (out : List Int) : ordR l fin kk sk (out ++ [si]) = ordR l fin kk (nextF l fin ks).2 (out ++ [(nextF l fin ks).1]) := by
  have h2 : NX l.length (Gd l fin (· ∈ ks)) (si, sk) := h.congr (Gd.congr fun t => ⟨fun h => h.1, fun h => ⟨h, hS t ((hk.tk t h).ok hn)⟩⟩)
  obtain ⟨e1, e2⟩ := h2.unique (nextF_nx (fin := fin) hn hk.tk)
  rw [show si = (nextF l fin ks).1 from e1]
  refine ordR_set hn _ _ _ _ (fun t ht => nextF_tk hn hk.tk t ((e2 t).1 ht)) e2
end Go.Proofs.Ytaapbnhggfmlpaa.A
end
section
set_option linter.unusedVariables false
set_option linter.unusedSimpArgs false
namespace Go.Proofs.Ytaapbnhggfmlpaa.P
open Go.RowKit Go.Proofs.YtaapbnhggfmlpaaW.PrintWords Go.Proofs.YtaapbnhggfmlpaaW.PrintLast Go.Proofs.YtaapbnhggfmlpaaW.PrintMore
open Go.Proofs.Ytaapbnhggfmlpaa.M Go.Proofs.Ytaapbnhggfmlpaa.A
theorem add_blk (a : Addr) (n : Nat) : (a.add n).block = a.block := by unfold Addr.add; split <;> rfl
theorem fr_cell {F : Nat → Prop} {w w' : World} (h : Fr F w w') {a : Addr} (ha : ¬ F a.block) {v : Value} (hc : w.cell? a = some v) : w'.cell? a = some v := by
  have hb : a.block < w.heap.size := by
    rcases Nat.lt_or_ge a.block w.heap.size with hl | hl
    · exact hl
    · simp [World.cell?, Array.getElem?_eq_none hl] at hc
  rw [← hc]
  simp only [World.cell?, h.block _ hb ha]
theorem ordR_done {l : List (List Int)} {fin : Int} {out : List Int} (h : ¬ out.length < l.length) (k : Nat) (ks : List T3) : ordR l fin k ks out = out := by
  cases k with
  | zero => rfl
  | succ k => unfold ordR; rw [if_neg h]
theorem ordR_go {l : List (List Int)} {fin : Int} {out : List Int} (h : out.length < l.length) (k : Nat) (ks : List T3) : ordR l fin (k + 1) ks out = ordR l fin k (nextF l fin ks).2 (out ++ [(nextF l fin ks).1]) := by
  conv => lhs; unfold ordR
  rw [if_pos h]
theorem begF_zero (l : List (List Int)) (fin s : Int) (ws : List Nat) : begF l fin s (ws.take 0) = (-1, 0) := by
  simp [begF]
theorem begF_succ (l : List (List Int)) (fin s : Int) (ws : List Nat) (i : Nat) (hi : i < ws.length) : begF l fin s (ws.take (i + 1)) = if 0 ≤ lf l fin (begT s ws[i]) ∧ ((begF l fin s (ws.take i)).1 < 0 ∨ lf l fin (begT s ws[i]) < (begF l fin s (ws.take i)).1) then (lf l fin (begT s ws[i]), ws[i]) else begF l fin s (ws.take i) := by
  have e : ws.take (i + 1) = ws.take i ++ [ws[i]] := by rw [List.take_succ_eq_append_getElem hi]
  unfold begF
  rw [e, List.foldl_append, List.foldl_cons, List.foldl_nil]
theorem begF_at (l : List (List Int)) (fin s : Int) (ws : List Nat) : (begF l fin s ws).1 < 0 ∨ ∃ x ∈ ws, begF l fin s ws = (lf l fin (begT s x), x) := by
  have h : ∀ i, i ≤ ws.length → (begF l fin s (ws.take i)).1 < 0 ∨ ∃ x ∈ ws, begF l fin s (ws.take i) = (lf l fin (begT s x), x) := by
    intro i
    induction i with
    | zero =>
      intro _
      rw [begF_zero]
      exact .inl (by decide)
    | succ i ih =>
      intro hi
      rw [begF_succ l fin s ws i hi]
      split
      · exact .inr ⟨ws[i], List.getElem_mem _, rfl⟩
      · exact ih (by omega)
  have := h ws.length (Nat.le_refl _)
  rwa [List.take_length] at this
set_option maxHeartbeats 4000000 in
set_option maxRecDepth 100000 in
theorem order_ (w0 : World) (gp gb gm : Nat) (A : Option Addr) (c : Nat) (l : List (List Int)) (fin s : Int) (Ab : Addr) (cb : Nat) (ws : List Nat) (w : World) (hn : l.length ≤ 9) (h0 : 0 < l.length) (hrow : ∀ j : Nat, j < l.length → (rd_Ls2 l j).length = l.length)
    (hs : 0 ≤ s ∧ s ≤ 9) (hws : ∀ (i : Nat) (h : i < ws.length), ws[i] < l.length) (hlen : ws.length ≤ 9) (hcb : ws.length ≤ cb) (hW : PW w0 gp gb gm A c l fin w) (hM : Mem l fin gm w) (nAb : Ab.block ≠ gm)
    (hb : ∀ (i : Nat) (h : i < ws.length), w.cell? (Ab.add i) = some (.int .i64 (ws[i] : Int))) (r1 : List Int) (r2 : Int) (r3 : Bool) (hr : orderF l fin s ws = (r1, r2, r3)) :
    Calls Try.prog 89 #[.pointer (some ⟨gp, 0, none⟩), .slice (some Ab) ws.length cb, .int .i64 s] w fun e w' => ∃ v0_ : Value, e = .returned (.tuple #[v0_, .int .i64 r2, .bool r3]) ∧ Kd.R (Kd.int .i64) 2 w' w.heap.size (fun _ => True) v0_ r1 ∧ Fr (· = gm) w w' := by
  have HROW := Aside0.mk hrow
  have HWS := Aside0.mk hws
  have HW := Aside0.mk hW
  have HW0 := Aside0.mk hW.bl.size
  have HLT := Aside0.mk (And.intro (blk_lt hW.p) (And.intro (blk_lt hW.b) hM.lt))
  have HM := Aside0.mk hM
  have NAB := Aside0.mk nAb
  have HBG := Aside0.mk hb
  have HRR := Aside0.mk hr
  clear hrow hws hW hM nAb hb hr
  obtain ⟨hs0, hs9⟩ := hs
  have hu150 := Try.underlying150
  have hu147 := Try.underlying147
  have hu113 := Try.underlying113
  have hu111 := Try.underlying111
  have hu101 := Try.underlying101
  have hu44 := Try.underlying44
  go_enter Try.func89, Try.ntmps89
  go_wp2_with (first
      | ((with_reducible refine gate_dst (N := 3) rfl ?_); refine box_event ?hg (N := 3) ?hd (cs := #[.pointer (some ⟨gp, 0, none⟩)]) (t := 147) ?hr ?_; (case hd => rfl); (case hg => rfl); (case hr => first | (go_simp; done) | (go_simp; rfl)); intro g3 hg w2 hbox hb; have L3 := Aside0.mk (show w.heap.size ≤ g3 by omega); have N3 := Aside0.mk (show g3 ≠ gm from fun e => by have := HM.out.lt; omega); have HFR := Aside0.mk (Fr.of_below (F := (· = gm)) hb); have B3 := Aside0.mk hbox; have n3_ := Aside0.mk (HW.out.below hb); have n4_ := Aside0.mk (HM.out.below hb); clear HW HM hg hbox hb; have HW := n3_; have HM := n4_; clear n3_ n4_))
  go_loopw [9, 10, 22] (fun v9 v10 v22 wr => ∃ (i : Nat) (b1 : Int) (b2 : Nat), v22 = .int .i64 i ∧ i ≤ ws.length ∧ v9 = .int .i64 b1 ∧ v10 = .int .i64 b2 ∧ Aside0 (begF l fin s (ws.take i) = (b1, b2)) ∧ Aside0 (PW w0 gp gb gm A c l fin wr) ∧ Aside0 (Mem l fin gm wr) ∧ Aside0 (Fr (· = gm) w wr) ∧ Aside0 (wr.heap[g3]? = some (.cells #[.pointer (some ⟨gp, 0, none⟩)] 147 (0, 0)))) (fun _ _ v _ => ws.length - (intOf v).toNat)
  case atStart => exact ⟨0, -1, 0, rfl, by omega, rfl, rfl, ⟨begF_zero l fin s ws⟩, HW, HM, HFR, B3⟩
  case round =>
    clear HW HM HFR B3
    obtain ⟨i, b1, b2, rfl, hi, rfl, rfl, HBF, HW, HM, HFR, B3⟩ := hrel
    by_cases ci : i < ws.length
    · have hx := fr_cell HFR.out (a := Ab.add i) (by rw [add_blk]; exact NAB.out) (HBG.out i ci)
      have hwi := HWS.out i ci
      have hSucc := begF_succ l fin s ws i ci
      rw [HBF.out] at hSucc
      obtain ⟨x, hxe⟩ : ∃ x, x = ws[i] := ⟨_, rfl⟩
      rw [← hxe] at hSucc hx hwi
      clear hxe
      have HSU := Aside0.mk hSucc
      clear hSucc HBF
      have hp9 := pow9 (show x ≤ 9 by omega)
      have hTx : Aside0 (Tk l.length (begT s x)) := ⟨by
        refine ⟨2 ^ x, x, s.toNat, ?_, Nat.pow_lt_pow_right (by decide) hwi, hwi, by omega⟩
        unfold begT
        rw [wpow x (by omega), Int.toNat_of_nonneg hs0]⟩
      have hg3 := (blk_cell B3.out 0).trans rfl
      go_wp2
      refine start_ (n := 8) (S := fun w' => w'.cell? ⟨g3, 0, none⟩ = some (.pointer (some ⟨gp, 0, none⟩))) (ds := []) #[false, false, false, false, false, false, false, false] (by kernel_rfl) rfl rfl (hg3) (fun hHeld => ?_)
      refine pure_ (i := 1) (N := some 27) (v := ?_) (a' := ?_) #[false, true, false, false, false, false, false, false] rfl rfl (by kernel_rfl) (fun _ _ _ h => h) (Or.inl ⟨by rfl, ?_⟩) ?_ ?_
      rotate_left
      · intro w'
        go_simp
        with_reducible rfl
      rotate_left
      · simp only [Act.put, List.setIfInBounds_toArray, List.set_cons_zero, List.set_cons_succ, i64_w, i32_w]
        rfl
      refine pure_ (i := 2) (N := some 28) (v := ?_) (a' := ?_) #[false, true, true, false, false, false, false, false] rfl rfl (by kernel_rfl) (fun _ _ _ h => h) (Or.inl ⟨by rfl, ?_⟩) ?_ ?_
      rotate_left
      · intro w'
        go_simp
        with_reducible rfl
      rotate_left
      · simp only [Act.put, List.setIfInBounds_toArray, List.set_cons_zero, List.set_cons_succ, i64_w, i32_w]
        rfl
      refine pure_ (i := 3) (N := some 29) (v := ?_) (a' := ?_) #[false, true, true, true, false, false, false, false] rfl rfl (by kernel_rfl) (fun _ _ _ h => h) (Or.inl ⟨by rfl, ?_⟩) ?_ ?_
      rotate_left
      · intro w'
        go_simp
        with_reducible rfl
      rotate_left
      · simp only [Act.put, List.setIfInBounds_toArray, List.set_cons_zero, List.set_cons_succ, i64_w, i32_w]
        rfl
      refine pure_ (i := 4) (N := some 30) (v := ?_) (a' := ?_) #[false, true, true, true, true, false, false, false] rfl rfl (by kernel_rfl) (fun _ _ _ h => h) (Or.inl ⟨by rfl, ?_⟩) ?_ ?_
      rotate_left
      · intro w'
        go_simp
        with_reducible rfl
      rotate_left
      · simp only [Act.put, List.setIfInBounds_toArray, List.set_cons_zero, List.set_cons_succ, i64_w, i32_w]
        rfl
      refine pure_ (i := 5) (N := some 31) (v := ?_) (a' := ?_) #[false, true, true, true, true, true, false, false] rfl rfl (by kernel_rfl) (fun _ _ _ h => h) (Or.inl ⟨by rfl, ?_⟩) ?_ ?_
      rotate_left
      · intro w'
        go_simp
        with_reducible rfl
      rotate_left
      · simp only [Act.put, List.setIfInBounds_toArray, List.set_cons_zero, List.set_cons_succ, i64_w, i32_w]
        rfl
      refine take_ (i := 0) (N := some 26) (v := ?_) (a' := ?_) #[true, true, true, true, true, true, false, false] rfl rfl (by kernel_rfl) (fun _ _ _ h => h) (Or.inl ⟨by rfl, ?_⟩) hHeld ?_ ?_
      rotate_left
      · intro w' s0
        go_simp
        with_reducible rfl
      rotate_left
      · simp only [Act.put, List.setIfInBounds_toArray, List.set_cons_zero, List.set_cons_succ, i64_w, i32_w]
        rfl
      refine one_ (i := 6) (N := some 32) #[true, true, true, true, true, true, true, false] rfl rfl (by kernel_rfl) (by decide) (fun K hK => ?_)
      refine goes_ Try.func123 (by kernel_rfl) rfl #[.pointer (some ⟨gp, 0, none⟩), (begT s x).v] (by rfl) rfl rfl (by simp only [List.map_toArray, List.map_cons, List.map_nil]; rfl) ?_
      refine (left_ w0 gp gb gm A c l fin hn HROW.out 10 (begT s x) _ (by have := ucnt_le l.length (begT s x).d.toNat; unfold tcnt; omega) hTx.out (PW.below (w' := wr.drew) HW.out (by repeat first | exact Below.refl _ _ | refine pw_below_drewN ?_ _ | refine Below.drew ?_)) (HM.out.below (by repeat first | exact Below.refl _ _ | refine pw_below_drewN ?_ _ | refine Below.drew ?_))).mono ?_
      rintro e w7 ⟨rfl, hM_, hF_⟩
      refine ⟨_, rfl, ?_⟩
      have HF7 := Aside0.mk ((HFR.out.trans (Fr.of_below (w1 := wr.drew) (by repeat first | exact Below.refl _ _ | refine pw_below_drewN ?_ _ | refine Below.drew ?_))).trans hF_)
      have HM7 := Aside0.mk hM_
      have HW7 := Aside0.mk (PW.fr (PW.below (w' := wr.drew) HW.out (by repeat first | exact Below.refl _ _ | refine pw_below_drewN ?_ _ | refine Below.drew ?_)) hF_ (fun k e => e ▸ HW.out.ge) HW.out.np HW.out.nb)
      have B37 := Aside0.mk (hF_.blk (show wr.drew.heap[_]? = _ from B3.out) N3.out)
      clear hM_ hF_
      refine hK.out _ _ ((blk_cell B37.out 0).trans rfl) (fun hHeld => ?_)
      clear hK K
      refine norm_ (a' := ?_) ?_ ?_
      rotate_left
      · show Act.put _ (some 32) _ = _
        simp only [Act.put, List.setIfInBounds_toArray, List.set_cons_zero, List.set_cons_succ, i64_w, i32_w]
        rfl
      refine pure_ (i := 7) (N := some 13) (v := ?_) (a' := ?_) #[true, true, true, true, true, true, true, true] rfl rfl (by kernel_rfl) (fun _ _ _ h => h) (Or.inl ⟨by rfl, ?_⟩) ?_ ?_
      rotate_left
      · intro w'
        go_simp
        with_reducible rfl
      rotate_left
      · simp only [Act.put, List.setIfInBounds_toArray, List.set_cons_zero, List.set_cons_succ, i64_w, i32_w]
        rfl
      refine done_ (by kernel_rfl) ?_

      clear hg3 hx HW HM HFR B3
      have hSU := HSU.out
      clear HSU
      generalize lf l fin (begT s x) = y at hSU ⊢
      have HSU := Aside0.mk hSU
      clear hSU hp9 hTx HWS HBG
      have fin1 : ∀ (h : 0 ≤ y ∧ (b1 < 0 ∨ y < b1)), begF l fin s (ws.take (i + 1)) = (y, x) := fun h => HSU.out.trans (if_pos h)
      have fin2 : ∀ (h : ¬ (0 ≤ y ∧ (b1 < 0 ∨ y < b1))), begF l fin s (ws.take (i + 1)) = (b1, b2) := fun h => HSU.out.trans (if_neg h)
      have F1 := Aside0.mk fin1
      have F2 := Aside0.mk fin2
      clear fin1 fin2 HSU
      by_cases h1 : 0 ≤ y
      · have h1b : decide (0 ≤ y) = true := decide_eq_true h1
        by_cases h2 : b1 < 0
        · have h2b : decide (b1 < 0) = true := decide_eq_true h2
          have F := Aside0.mk (F1.out ⟨h1, .inl h2⟩)
          clear F1 F2
          go_wp2
          exact ⟨⟨i + 1, y, x, by go_num, by omega, rfl, rfl, F, HW7, HM7, HF7, B37⟩, by simp [intOf]; omega⟩
        · have h2b : decide (b1 < 0) = false := decide_eq_false h2
          by_cases h3 : y < b1
          · have h3b : decide (y < b1) = true := decide_eq_true h3
            have F := Aside0.mk (F1.out ⟨h1, .inr h3⟩)
            clear F1 F2
            go_wp2
            exact ⟨⟨i + 1, y, x, by go_num, by omega, rfl, rfl, F, HW7, HM7, HF7, B37⟩, by simp [intOf]; omega⟩
          · have h3b : decide (y < b1) = false := decide_eq_false h3
            have F := Aside0.mk (F2.out (fun h => h.2.elim h2 h3))
            clear F1 F2
            go_wp2
            exact ⟨⟨i + 1, b1, b2, by go_num, by omega, rfl, rfl, F, HW7, HM7, HF7, B37⟩, by simp [intOf]; omega⟩
      · have h1b : decide (0 ≤ y) = false := decide_eq_false h1
        have F := Aside0.mk (F2.out (fun h => h1 h.1))
        clear F1 F2
        go_wp2
        exact ⟨⟨i + 1, b1, b2, by go_num, by omega, rfl, rfl, F, HW7, HM7, HF7, B37⟩, by simp [intOf]; omega⟩
    · obtain rfl : i = ws.length := by omega
      rw [List.take_length] at HBF
      by_cases hb1 : b1 < 0
      · have hb1b : decide (b1 < 0) = true := decide_eq_true hb1
        have e : (([] : List Int), (0 : Int), false) = (r1, r2, r3) := by
          have h := HRR.out
          unfold orderF at h
          rw [HBF.out, if_pos hb1] at h
          exact h
        cases e
        go_wp2
        go_ret3
        exact ⟨_, rfl, Kd.R_nil _ _ _ _ _, HFR.out⟩
      · have hb1b : decide (b1 < 0) = false := decide_eq_false hb1
        have e : (ordR l fin 10 [begT s b2] [(b2 : Int)], b1, true) = (r1, r2, r3) := by
          have h := HRR.out
          unfold orderF at h
          rw [HBF.out, if_neg hb1] at h
          exact h
        have HRUN := Aside0.mk (congrArg Prod.fst e)
        have e2 : b1 = r2 := congrArg (fun p => p.2.1) e
        have e3 : true = r3 := congrArg (fun p => p.2.2) e
        subst e2 e3
        obtain ⟨hx2, hlf⟩ : b2 < l.length ∧ b1 = lf l fin (begT s b2) := by
          rcases begF_at l fin s ws with h | ⟨x, hx, h⟩
          · rw [HBF.out] at h
            exact absurd h hb1
          · rw [HBF.out] at h
            cases h
            obtain ⟨j, hj, rfl⟩ := List.getElem_of_mem hx
            exact ⟨HWS.out j hj, rfl⟩
        have HLF := Aside0.mk hlf
        clear e hlf HBF HRR HBG
        have hp9 := pow9 (show b2 ≤ 9 by omega)
        have HTB : Aside0 (Tk l.length (begT s b2)) := ⟨by
          refine ⟨2 ^ b2, b2, s.toNat, ?_, Nat.pow_lt_pow_right (by decide) hx2, hx2, by omega⟩
          unfold begT
          rw [wpow b2 (by omega), Int.toNat_of_nonneg hs0]⟩
        clear hp9
        have HWF : Aside0 ((Lit.int .i64 b1).wf = true) := ⟨by rw [HLF.out]; exact lf_wf _ _ _⟩
        have GE3 := Aside0.mk (blk_lt B3.out)
        go_wp2_with (first
          | ((with_reducible refine gate_dst (N := 50) rfl ?_); refine Kd.R_lit (Kd.int .i64) _ 2 ?hg (N := 50) ?hd (xs := ([(b2 : Int)] : List Int)) (inner := [.int .i64 b2]) (ok := fun _ => True) (okp := fun _ => True) ?hr ?hp (fun _ hk => hk) trivial (Below.refl _ _) (Nat.le_refl _) (by simp) ?_; (case hd => rfl); (case hg => rfl); (case hr => first | (go_simp; done) | (go_simp; rfl)); (case hp => exact (Reps.one (show Kd.M (Kd.int .i64) _ _ _ (b2 : Int) [.int .i64 b2] from rfl) (Reps.none _ _))); intro v50 w3 ho hb hg_ hnew_; clear hg_ hnew_; have HO := Aside0.mk (Kd.R_lower ho HFR.out.size); have n1_ := Aside0.mk (blk_below B3.out hb); have n2_ := Aside0.mk (HW.out.below hb); have n3_ := Aside0.mk (HM.out.below hb); have n4_ := Aside0.mk (HFR.out.trans (Fr.of_below (F := (· = gm)) hb)); clear B3 HW HM HFR GE3 ho hb; have B3 := n1_; have HW := n2_; have HM := n3_; have HFR := n4_; clear n1_ n2_ n3_ n4_)
          | (refine wp_tmake _ rfl rfl ?_; intro gs w4 hgs hT hb; have HTM := Aside0.mk hT; have NGS := Aside0.mk (show gs ≠ gm ∧ w.heap.size ≤ gs from ⟨fun e => by have := HM.out.lt; omega, by have := HFR.out.size; omega⟩); have n0_ := Aside0.mk (Kd.R_below HO.out hb); have n1_ := Aside0.mk (blk_below B3.out hb); have n2_ := Aside0.mk (HW.out.below hb); have n3_ := Aside0.mk (HM.out.below hb); have n4_ := Aside0.mk (HFR.out.trans (Fr.of_below (F := (· = gm)) hb)); clear B3 HW HM HFR HO hT hb hgs; have B3 := n1_; have HW := n2_; have HM := n3_; have HFR := n4_; have HO := n0_; clear n0_ n1_ n2_ n3_ n4_)
          | (refine wp_tput _ rfl _ _ _ (.inr rfl) gs 0 (fun _ => none) rfl HTM.out (by decide) (begT s b2) b1 rfl rfl (HTB.out.ok hn) HWF.out ?_; intro w5 hT hgr; have hFs : Fr (· = gs) w4 w5 := Fr.of_grown hgr (fun k e => (Option.some.inj e).symm);
             have n5_ := Aside0.mk (show TM w5 gs [begT s b2].length (kf l fin [begT s b2]) from by rw [← kf_one l fin _ HLF.out]; exact hT);
             have n0_ := Aside0.mk (R_fr HO.out hFs (fun k cs e h => HTM.out.ne_cells h e)); have n1_ := Aside0.mk (hFs.blk B3.out (HTM.out.ne_cells B3.out)); have n2_ := Aside0.mk (HW.out.fr hFs (fun k e => by rw [e]; have := HW.out.bl.size; have := NGS.out.2; have := HW0.out; omega) (HTM.out.ne_cells HW.out.p) (HTM.out.ne_cells HW.out.b)); have n3_ := Aside0.mk (HM.out.fr hFs (fun e => NGS.out.1 e.symm)); have n4_ := Aside0.mk (HFR.out.then_ hFs (fun i e => .inr (by rw [e]; exact NGS.out.2)));
             clear B3 HW HM HFR HO HTM hT hgr hFs; have B3 := n1_; have HW := n2_; have HM := n3_; have HFR := n4_; have HO := n0_; have HTM := n5_; clear n0_ n1_ n2_ n3_ n4_ n5_))
        have HOS := Aside0.mk (OS.mk HW.out HM.out HFR.out B3.out HW0.out HLT.out.1 HLT.out.2.1 HLT.out.2.2 L3.out)
        have HK1 := Aside0.mk (KOk.add (KOk.nil l.length) HTB.out)
        have HL1 : Aside0 (l.length ≤ ([(b2 : Int)] : List Int).length + 10) := ⟨by simp; omega⟩
        clear HW HM HFR B3 NAB HWS HW0
        go_loopg [14, 15] 10 (fun kq v14 v15 w' => ∃ (gs : Nat) (ks : List T3) (out : List Int), v15 = .map (some gs) ∧ Aside0 (Kd.R (Kd.int .i64) 2 w' w.heap.size (fun _ => True) v14 out) ∧ Aside0 (ordR l fin kq ks out = r1) ∧ Aside0 (KOk l.length ks) ∧ Aside0 (TM w' gs ks.length (kf l fin ks)) ∧ Aside0 (w.heap.size ≤ gs) ∧ Aside0 (l.length ≤ out.length + kq) ∧ Aside0 (kq ≤ 10) ∧ Aside0 (OS w0 w gp gb gm g3 A c l fin w'))
        case atStart => exact ⟨gs, _, _, rfl, HO, HRUN, HK1, HTM, ⟨NGS.out.2⟩, HL1, ⟨Nat.le_refl _⟩, HOS⟩
        case round =>
          clear HOS HO HTM HRUN HK1 HL1 NGS
          obtain ⟨wo, rfl⟩ : ∃ wo : World, wo = wr := ⟨_, rfl⟩
          obtain ⟨gs, ks, out, rfl, HO, HRUN, HKS, HTM, HGS, HLE, HK, HOS⟩ := hrel
          have hg3 := (blk_cell HOS.out.b3 0).trans rfl
          have hp0 := (blk_cell HOS.out.pw.p 0).trans rfl
          have hb0 := (blk_cell HOS.out.pw.b 0).trans rfl
          obtain ⟨Ao, co, rfl, hoc, hor⟩ := Kd.R_reads HO.out
          clear hoc hor
          by_cases c1 : out.length < l.length
          · obtain ⟨kk, rfl⟩ : ∃ kk, gk = kk + 1 := ⟨gk - 1, by have := HLE.out; omega⟩
            have c1b : decide (out.length < l.length) = true := decide_eq_true c1
            have HR2 := Aside0.mk ((ordR_go c1 kk ks).symm.trans HRUN.out)
            have HC1 := Aside0.mk c1
            clear HRUN c1
            go_wp2_with (first
              | (refine wp_tmake _ rfl rfl ?_; intro gx w4 hgx hT hb; have HT4 := Aside0.mk hT; have HB4 := Aside0.mk hb; have LXG := Aside0.mk (show wo.heap.size ≤ gx by omega); have LX := Aside0.mk hT.lt; clear hT hb hgx hg3 hp0 hb0)
              | ((with_reducible refine gate_dst (N := 16) rfl ?_); refine box_event ?hg (N := 16) ?hd (cs := #[.int .i64 0]) (t := 3) ?hr ?_; (case hd => rfl); (case hg => rfl); (case hr => first | (go_simp; done) | (go_simp; rfl)); intro cW hg w5 hbox hb; have BW := Aside0.mk hbox; have HB5 := Aside0.mk (HB4.out.trans (hb.mono HB4.out.size)); have HT5 := Aside0.mk (HT4.out.below hb); have NW := Aside0.mk (show wo.heap.size ≤ cW ∧ gx < cW from ⟨by have := HB4.out.size; omega, by have := LX.out; omega⟩); clear HB4 HT4 hb hbox hg; have hcW := (blk_cell BW.out 0).trans rfl; have hfW := blk_frozen BW.out 0)
              | ((with_reducible refine gate_dst (N := 17) rfl ?_); refine box_event ?hg (N := 17) ?hd (cs := #[.map none]) (t := 111) ?hr ?_; (case hd => rfl); (case hg => rfl); (case hr => first | (go_simp; done) | (go_simp; rfl)); intro cN hg w6 hbox hb; have BN := Aside0.mk hbox; have HB6 := Aside0.mk (HB5.out.trans (hb.mono HB5.out.size)); have HT6 := Aside0.mk (HT5.out.below hb); have n1_ := Aside0.mk (blk_below BW.out hb); have NN := Aside0.mk (show wo.heap.size ≤ cN ∧ cW < cN from ⟨by have := HB5.out.size; omega, by have := blk_lt BW.out; omega⟩); clear HB5 HT5 BW hb hbox hg hcW hfW; have BW := n1_; clear n1_; have hcW := (blk_cell BW.out 0).trans rfl; have hfW := blk_frozen BW.out 0; have hcN := (blk_cell BN.out 0).trans rfl; have hfN := blk_frozen BN.out 0)
              | ((with_reducible refine gate_store (t := 3) (p := 16) rfl ?_); refine store_event (t := 3) (p := 16) (v := .tmp 77) (w1 := w6.setCell ⟨cW, 0, none⟩ (.int .i64 l.length)) ?hg ?ho ?hn ?hr ?_; (case ho => rfl); (case hg => rfl); (case hn => rfl); (case hr => first | (go_simp; done) | (go_simp; rfl)); intro w7 hw; clear hcW hfW hcN hfN;
                 have hFs : Fr (· = cW) w6 w7 := (by rw [hw]; exact Fr.set_ (F := (· = cW)) (Fr.refl _ _) (Eq.refl cW) _); have BW7 := Aside0.mk (show w7.heap[cW]? = some (.cells #[.int .i64 l.length] 3 (0, 0)) by rw [hw]; exact blk_put BW.out 0 _ rfl); have BN7 := Aside0.mk (hFs.blk BN.out (fun e => by have := NN.out.2; omega)); have HT7 := Aside0.mk (HT6.out.fr hFs (fun e => by have := NW.out.2; omega)); have HB7 := Aside0.mk (Fr.below HB6.out hFs HB6.out.size (fun k e => by rw [e]; exact NW.out.1)); clear hFs hw BW BN HT6 HB6; have hcN := (blk_cell BN7.out 0).trans rfl; have hfN := blk_frozen BN7.out 0)
              | ((with_reducible refine gate_store (t := 111) (p := 17) rfl ?_); refine store_event (t := 111) (p := 17) (v := .tmp 78) (w1 := w7.setCell ⟨cN, 0, none⟩ (.map (some gx))) ?hg ?ho ?hn ?hr ?_; (case ho => rfl); (case hg => rfl); (case hn => rfl); (case hr => first | (go_simp; done) | (go_simp; rfl)); intro w8 hw; clear hcN hfN;
                 have hFs : Fr (· = cN) w7 w8 := (by rw [hw]; exact Fr.set_ (F := (· = cN)) (Fr.refl _ _) (Eq.refl cN) _); have BN8 := Aside0.mk (show w8.heap[cN]? = some (.cells #[.map (some gx)] 111 (0, 0)) by rw [hw]; exact blk_put BN7.out 0 _ rfl); have BW8 := Aside0.mk (hFs.blk BW7.out (fun e => by have := NN.out.2; omega)); have HT8 := Aside0.mk (show TM w8 gx ([] : List T3).length (kf l fin []) by rw [← kf_nil]; exact HT7.out.fr hFs (fun e => by have := NN.out.2; have := NW.out.2; omega)); have HB8 := Aside0.mk (Fr.below HB7.out hFs HB7.out.size (fun k e => by rw [e]; exact NN.out.1)); clear hFs hw BW7 BN7 HT7 HB7;
                 have n1_ := Aside0.mk (HOS.out.below HB8.out); have n2_ := Aside0.mk (HTM.out.below HB8.out); have n3_ := Aside0.mk (Kd.R_below HO.out HB8.out); have NZ := Aside0.mk (show gs < wo.heap.size ∧ g3 < wo.heap.size from ⟨HTM.out.lt, blk_lt HOS.out.b3⟩); clear HOS HTM HO HB8; have HOS := n1_; have HTM := n2_; have HO := n3_; clear n1_ n2_ n3_)
              | (refine wp_trange _ rfl (.tmp 79) rfl gs ks.length (kf l fin ks) rfl HTM.out ?_; intro gr cnt w9 hgr hRG hb; have HRG := Aside0.mk hRG; have ND := Aside0.mk (show (gp < w.heap.size ∧ gb < w.heap.size ∧ gm < w.heap.size ∧ w0.heap.size ≤ w.heap.size) ∧ w.heap.size ≤ g3 ∧ w.heap.size ≤ gs ∧ g3 < wo.heap.size ∧ gs < wo.heap.size ∧ wo.heap.size ≤ gx ∧ gx < cW ∧ cW < cN ∧ cN < gr from ⟨⟨HOS.out.lp, HOS.out.lb, HOS.out.lm, HOS.out.lw⟩, L3.out, HGS.out, NZ.out.2, NZ.out.1, LXG.out, NW.out.2, NN.out.2, by have := blk_lt BN8.out; omega⟩);
                 have n1_ := Aside0.mk (HOS.out.below hb); have n3_ := Aside0.mk (Kd.R_below HO.out hb); have n4_ := Aside0.mk (blk_below BW8.out hb); have n5_ := Aside0.mk (blk_below BN8.out hb); have n6_ := Aside0.mk (HT8.out.below hb); clear HOS HTM HO BW8 BN8 HT8 hRG hb hgr; have HOS := n1_; have HO := n3_; have BW := n4_; have BN := n5_; have HT := n6_; clear n1_ n3_ n4_ n5_ n6_))
            go_frame
            go_loopw [81] (fun v81 wx => ∃ (S : T3 → Prop) (cnt1 : Nat) (si : Int) (sk : List T3), Aside0 (RG wx gs gr ks.length (kf l fin ks) S cnt1) ∧ Aside0 (NX l.length (Gd l fin (fun t => t ∈ ks ∧ ¬ S t)) (si, sk)) ∧ Aside0 (KOk l.length sk) ∧ Aside0 (wx.heap[cW]? = some (.cells #[.int .i64 si] 3 (0, 0))) ∧ Aside0 (wx.heap[cN]? = some (.cells #[.map (some gx)] 111 (0, 0))) ∧ Aside0 (TM wx gx sk.length (kf l fin sk)) ∧ Aside0 (Kd.R (Kd.int .i64) 2 wx w.heap.size (fun _ => True) (.slice Ao out.length co) out) ∧ Aside0 (OS w0 w gp gb gm g3 A c l fin wx)) (fun _ wx => wx.rangeLeft gs gr)
            case atStart => exact ⟨_, _, _, _, HRG, ⟨(NX.start l.length).congr fun x => ⟨fun h => h.elim, fun ⟨t, ⟨h1, h2⟩, _⟩ => h2 (by simp [kf, h1])⟩⟩, ⟨KOk.nil _⟩, BW, BN, HT, HO, HOS⟩
            case round =>
              clear BW BN HT HO HOS HRG
              obtain ⟨S, cnt1, si, sk, HRG, HNX, HKK, BW, BN, HT, HO, HOS⟩ := hrel
              go_wp2_with (first | (refine wp_tnext _ rfl (.tmp 80) rfl gs gr ks.length cnt1 (kf l fin ks) S rfl HRG.out ?_ ?_))
              · intro hDone
                have hO := ordR_next (fin := fin) hn HKS.out hDone HNX.out kk out
                have HR3 := Aside0.mk (hO.trans HR2.out)
                clear hO HR2 hDone HNX HRG
                have hcW := (blk_cell BW.out 0).trans rfl
                have hcN := (blk_cell BN.out 0).trans rfl
                go_wp2
                refine start_ (n := 7) (S := fun w' => w'.cell? ⟨cW, 0, none⟩ = some (.int .i64 si) ∧ w'.cell? ⟨cN, 0, none⟩ = some (.map (some gx))) (ds := []) #[false, false, false, false, false, false, false] (by kernel_rfl) rfl rfl ⟨hcW, hcN⟩ (fun hHeld => ?_)
                refine pure_ (i := 0) (N := some 90) (v := ?_) (a' := ?_) #[true, false, false, false, false, false, false] rfl rfl (by kernel_rfl) (fun _ _ _ h => h) (Or.inl ⟨by rfl, ?_⟩) ?_ ?_
                rotate_left
                · intro w'
                  go_simp
                  with_reducible rfl
                rotate_left
                · simp only [Act.put, List.setIfInBounds_toArray, List.set_cons_zero, List.set_cons_succ, i64_w, i32_w]
                  rfl
                refine take_ (i := 1) (N := some 91) (v := ?_) (a' := ?_) #[true, true, false, false, false, false, false] rfl rfl (by kernel_rfl) (fun _ _ _ h => h) (Or.inl ⟨by rfl, ?_⟩) hHeld ?_ ?_
                rotate_left
                · rintro w' ⟨s0, s1⟩
                  go_simp
                  with_reducible rfl
                rotate_left
                · simp only [Act.put, List.setIfInBounds_toArray, List.set_cons_zero, List.set_cons_succ, i64_w, i32_w]
                  rfl
                refine take_ (i := 4) (N := some 94) (v := ?_) (a' := ?_) #[true, true, false, false, true, false, false] rfl rfl (by kernel_rfl) (fun _ _ _ h => h) (Or.inl ⟨by rfl, ?_⟩) hHeld ?_ ?_
                rotate_left
                · rintro w' ⟨s0, s1⟩
                  go_simp
                  with_reducible rfl
                rotate_left
                · simp only [Act.put, List.setIfInBounds_toArray, List.set_cons_zero, List.set_cons_succ, i64_w, i32_w]
                  rfl
                refine one_ (i := 2) (N := some 92) #[true, true, true, false, true, false, false] rfl rfl (by kernel_rfl) (by decide) (fun K hK => ?_)
                refine value_ (w1 := ?_) (v := ?_) (by rfl) rfl ?_ ?_
                rotate_left 2
                · go_simp
                  constructor
                  · rfl
                  · rfl
                refine hK.out _ _ ⟨(blk_cell (blk_alloc (show wr.drew.heap[cW]? = _ from BW.out) _) 0).trans rfl, (blk_cell (blk_alloc (show wr.drew.heap[cN]? = _ from BN.out) _) 0).trans rfl⟩ (fun hHeld => ?_)
                clear hK K
                refine norm_ (a' := ?_) ?_ ?_
                rotate_left
                · show Act.put _ (some 92) _ = _
                  simp only [Act.put, List.setIfInBounds_toArray, List.set_cons_zero, List.set_cons_succ, i64_w, i32_w]
                  rfl
                refine one_ (i := 3) (N := some 93) #[true, true, true, true, true, false, false] rfl rfl (by kernel_rfl) (by decide) (fun K hK => ?_)
                refine Kd.R_append_step (Kd.int .i64) (w0 := wr.drew) w.heap.size (by rfl) (.tmp 90) (.tmp 92) 28 2 (.int .i64 0) 8 rfl Try.underlying28 info2 rfl (by decide) (by omega) (.slice Ao out.length co) out si [.int .i64 si] (fun _ => True) (fun _ => False) rfl rfl rfl (fun _ hk => hk.elim) (fun _ _ => trivial) (Kd.R_drew HO.out) (Below.refl _ _) (by have := HOS.out.fr.size; exact this) (by have := HC1.out; omega) ?_
                intro v14' w12 ho hb hg hat
                have hF12 : Fr (fun k => some k = (Value.slice Ao out.length co).ownBlock) wr.drew w12 := Fr.of_grown hg (fun k e => e.symm)
                have HO12 := Aside0.mk ho
                have NEW_ := Aside0.mk (Kd.R_ne (Kd.R_drew HO.out) (g := cW) (w := wr.drew) BW.out (by decide))
                have NEN_ := Aside0.mk (Kd.R_ne (Kd.R_drew HO.out) (g := cN) (w := wr.drew) BN.out (by decide))
                have NE3_ := Aside0.mk (Kd.R_ne (Kd.R_drew HO.out) (g := g3) (w := wr.drew) HOS.out.b3 (by decide))
                have BW12 := Aside0.mk (hF12.blk (show wr.drew.heap[cW]? = _ from BW.out) NEW_.out)
                have BN12 := Aside0.mk (hF12.blk (show wr.drew.heap[cN]? = _ from BN.out) NEN_.out)
                have HT12 := Aside0.mk (HT.out.drew.fr hF12 (fun e => by obtain ⟨cells, hc⟩ := Kd.R_typed HO.out gx e.symm; exact HT.out.ne_cells hc rfl))
                have HOS12 := Aside0.mk ((HOS.out.below (w2 := wr.drew) (by repeat first | exact Below.refl _ _ | refine pw_below_drewN ?_ _ | refine Below.drew ?_)).new hF12 (fun k e => ⟨Kd.R_base HO.out k e.symm, fun e2 => NE3_.out (e2 ▸ e)⟩))
                clear ho hb hg hat hF12 NEW_ NEN_ NE3_
                refine hK.out _ _ ⟨(blk_cell BW12.out 0).trans rfl, (blk_cell BN12.out 0).trans rfl⟩ (fun hHeld => ?_)
                clear hK K
                refine norm_ (a' := ?_) ?_ ?_
                rotate_left
                · show Act.put _ (some 93) _ = _
                  simp only [Act.put, List.setIfInBounds_toArray, List.set_cons_zero, List.set_cons_succ, i64_w, i32_w]
                  rfl
                refine pure_ (i := 5) (N := some 14) (v := ?_) (a' := ?_) #[true, true, true, true, true, true, false] rfl rfl (by kernel_rfl) (fun _ _ _ h => h) (Or.inl ⟨by rfl, ?_⟩) ?_ ?_
                rotate_left
                · intro w'
                  go_simp
                  with_reducible rfl
                rotate_left
                · simp only [Act.put, List.setIfInBounds_toArray, List.set_cons_zero, List.set_cons_succ, i64_w, i32_w]
                  rfl
                refine pure_ (i := 6) (N := some 15) (v := ?_) (a' := ?_) #[true, true, true, true, true, true, true] rfl rfl (by kernel_rfl) (fun _ _ _ h => h) (Or.inl ⟨by rfl, ?_⟩) ?_ ?_
                rotate_left
                · intro w'
                  go_simp
                  with_reducible rfl
                rotate_left
                · simp only [Act.put, List.setIfInBounds_toArray, List.set_cons_zero, List.set_cons_succ, i64_w, i32_w]
                  rfl
                refine done_ (by kernel_rfl) ?_

                go_wp2
                go_roundg kk
                case measure => have := HK.out; omega
                case rel => exact ⟨gx, sk, _, rfl, HO12, HR3, HKK, HT12, ⟨by have := ND.out; omega⟩, ⟨by have := HLE.out; simp; omega⟩, ⟨by have := HK.out; omega⟩, HOS12⟩
              · rintro ⟨d, tl0, ts⟩ v w10 cnt2 ht hSt hv hRG hlt hgr hsz hen
                obtain ⟨htk, hvl⟩ : (⟨d, tl0, ts⟩ : T3) ∈ ks ∧ v = lf l fin ⟨d, tl0, ts⟩ := by
                  unfold kf at hv
                  split at hv
                  · exact ⟨by assumption, (Option.some.inj hv).symm⟩
                  · cases hv
                subst hvl
                clear hv
                have HTt := Aside0.mk (HKS.out.tk _ htk)
                obtain ⟨tl, htl, hts, rfl⟩ : ∃ tl : Nat, tl < l.length ∧ (0 ≤ ts ∧ ts ≤ 9) ∧ tl0 = (tl : Int) := by
                  obtain ⟨D, L, S', e, h1, h2, h3⟩ := HTt.out
                  cases e
                  exact ⟨L, h2, by omega, rfl⟩
                have hF10 : Fr (· = gr) wr w10 := Fr.of_grown hgr (fun k e => (Option.some.inj e).symm)
                have HZ := Aside0.mk (show gs < wr.heap.size ∧ gr < wr.heap.size ∧ gx < wr.heap.size from ⟨HRG.out.tm.lt, HRG.out.lt, HT.out.lt⟩)
                have HSZ := Aside0.mk hsz
                have HRG2 := Aside0.mk hRG
                have HMS := Aside0.mk (show w10.rangeLeft gs gr < wr.rangeLeft gs gr by rw [hRG.left_eq, HRG.out.left_eq]; exact hlt)
                have HTK := Aside0.mk htk
                have BW10 := Aside0.mk (hF10.blk BW.out (fun e => by have := ND.out; omega))
                have BN10 := Aside0.mk (hF10.blk BN.out (fun e => by have := ND.out; omega))
                have HT10 := Aside0.mk (HT.out.fr hF10 (fun e => by have := ND.out; omega))
                have HO10 := Aside0.mk (R_fr HO.out hF10 (fun k cs e h => by rw [e] at h; exact absurd h HRG.out.not_cells))
                have HOS10 := Aside0.mk (HOS.out.new hF10 (fun k e => by rw [e]; have := ND.out; omega))
                clear htk hF10 hsz hRG hlt hgr hSt ht HRG BW BN HT HO HOS
                go_wp2_with (first
                  | ((with_reducible refine gate_store (t := 2) (p := 19) rfl ?_); refine store_event (t := 2) (p := 19) (v := .tmp 85) (w1 := (w10.alloc (.cells #[.int .i64 d, .int .i64 tl, .int .i64 ts] 150 (0, 0))).alloc (.cells #[.int .i64 (lf l fin ⟨d, tl, ts⟩)] 2 (0, 0))) ?hg ?ho ?hn ?hr ?_; (case ho => rfl); (case hg => rfl); (case hn => rfl); (case hr => first | (go_simp; done) | (go_simp; rfl)); intro w11 hw; clear hen;
                     have hb : Below w10.heap.size w10 w11 := (by rw [hw]; exact ((Below.refl _ _).alloc (Nat.le_refl _) _).alloc (by simp) _);
                     have BT := Aside0.mk (show w11.heap[w10.heap.size]? = some (.cells #[.int .i64 d, .int .i64 tl, .int .i64 ts] 150 (0, 0)) by rw [hw]; exact blk_alloc (blk_new _ _) _);
                     have BV := Aside0.mk (show w11.heap[w10.heap.size + 1]? = some (.cells #[.int .i64 (lf l fin ⟨d, tl, ts⟩)] 2 (0, 0)) by rw [hw]; have h := blk_new (w10.alloc (.cells #[.int .i64 d, .int .i64 tl, .int .i64 ts] 150 (0, 0))) (.cells #[.int .i64 (lf l fin ⟨d, tl, ts⟩)] 2 (0, 0)); simpa using h);
                     have n1_ := Aside0.mk (HRG2.out.below hb); have n2_ := Aside0.mk (blk_below BW10.out hb); have n3_ := Aside0.mk (blk_below BN10.out hb); have n4_ := Aside0.mk (HT10.out.below hb); have n5_ := Aside0.mk (Kd.R_below HO10.out hb); have n6_ := Aside0.mk (HOS10.out.below hb);
                     have NL := Aside0.mk (show w10.rangeLeft gs gr = cnt2 from HRG2.out.left_eq);
                     clear HRG2 BW10 BN10 HT10 HO10 HOS10 hw hb; have HRG := n1_; have BW := n2_; have BN := n3_; have HT := n4_; have HO := n5_; have HOS := n6_; clear n1_ n2_ n3_ n4_ n5_ n6_;
                     have hg3 := (blk_cell HOS.out.b3 0).trans rfl; have hd0 := (blk_cell BT.out 0).trans rfl; have hd1 := (blk_cell BT.out 1).trans rfl; have hd2 := (blk_cell BT.out 2).trans rfl))
                go_wp2_with (first
                  | (go_at_call 124; (with_reducible refine (choices_ Try.func125 (by kernel_rfl) rfl #[.pointer (some ⟨cW, 0, none⟩), .pointer (some ⟨g3, 0, none⟩), .pointer (some ⟨w10.heap.size + 1, 0, none⟩), .pointer (some ⟨cN, 0, none⟩)] gp gb gm A c l fin d ts tl w11
                        (fun pre w' => OS w0 w gp gb gm g3 A c l fin w' ∧ KOk l.length (pre.foldl (stepN l fin (lf l fin ⟨d, tl, ts⟩)) (si, sk)).2 ∧ w'.heap[cW]? = some (.cells #[.int .i64 (pre.foldl (stepN l fin (lf l fin ⟨d, tl, ts⟩)) (si, sk)).1] 3 (0, 0)) ∧ w'.heap[w10.heap.size + 1]? = some (.cells #[.int .i64 (lf l fin ⟨d, tl, ts⟩)] 2 (0, 0)) ∧ w'.heap[cN]? = some (.cells #[.map (some gx)] 111 (0, 0)) ∧
                          TM w' gx (pre.foldl (stepN l fin (lf l fin ⟨d, tl, ts⟩)) (si, sk)).2.length (kf l fin (pre.foldl (stepN l fin (lf l fin ⟨d, tl, ts⟩)) (si, sk)).2)) (fun k => k = gm ∨ k = cW ∨ k = gx) ?q1 ?q2 ?q3 ?q4 ?q5 ?q6 ?q7 ?q8 ?q9).mono ?_);
                     (case q1 => exact hn); (case q2 => exact htl); (case q3 => exact hts); (case q4 => exact HROW.out); (case q5 => exact ⟨HOS.out, HKK.out, BW.out, BV.out, BN.out, HT.out⟩); (case q6 => exact fun pre w' h => h.1.pw.pl); (case q7 => exact fun pre w1 w2 h hb => ⟨h.1.below hb, h.2.1, blk_below h.2.2.1 hb, blk_below h.2.2.2.1 hb, blk_below h.2.2.2.2.1 hb, h.2.2.2.2.2.below hb⟩);
                     (case q8 => rintro k (rfl | rfl | rfl); exact HOS.out.mem.lt; exact blk_lt BW.out; exact HT.out.lt);
                     (case q9 =>
                        intro pre x post w' hsp hI
                        have hxo := itms_ok hn HTt.out x (by rw [hsp]; simp)
                        have hsz' := HSZ.out
                        have hz := HZ.out
                        have nd := ND.out
                        refine (order1_ w0 gp gb gm cW g3 (w10.heap.size + 1) cN gx A c l fin (pre.foldl (stepN l fin (lf l fin ⟨d, tl, ts⟩)) (si, sk)).1 (lf l fin ⟨d, tl, ts⟩) (pre.foldl (stepN l fin (lf l fin ⟨d, tl, ts⟩)) (si, sk)).2 x w' hn HROW.out hxo.1 hI.1.pw hI.1.mem hI.2.1 hI.2.2.1 hI.1.b3 hI.2.2.2.1 hI.2.2.2.2.1 hI.2.2.2.2.2 (by omega) (by omega) (by omega) (by omega) (by omega) (by omega) (by omega) (by omega) (by omega) (by omega) (by omega) (by omega)).mono ?_
                        rintro e w'' ⟨rfl, hM2, hW2, hT2, hF2⟩
                        refine ⟨rfl, ⟨hI.1.step hF2 (fun k hk => by omega) hM2, ?_, ?_, hF2.blk hI.2.2.2.1 (by omega), hF2.blk hI.2.2.2.2.1 (by omega), ?_⟩, hF2⟩
                        · rw [List.foldl_append]; exact hI.2.1.step hxo.1
                        · rw [List.foldl_append]; exact hW2
                        · rw [List.foldl_append]; exact hT2);
                     rintro e w12 ⟨rfl, ⟨hOS, hKK, hW, hV, hN, hT⟩, hF6⟩;
                     have n1_ := Aside0.mk (HRG.out.fr hF6 (by have := ND.out; omega) (by have := ND.out; omega)); have n2_ := Aside0.mk (R_fr HO.out hF6 (fun k cs e h => by
                       rcases e with e | e | e
                       · exact HOS.out.mem.ne_cells h e
                       · rw [e, BW.out] at h; cases h
                       · exact HT.out.ne_cells h e));
                     clear HRG HO HOS BW BV BN HT BT hF6 hg3 hd0 hd1 hd2; have HRG := n1_; have HO := n2_; have HOS := Aside0.mk hOS; have HKK2 := Aside0.mk hKK; have BW := Aside0.mk hW; have BN := Aside0.mk hN; have HT := Aside0.mk hT; clear n1_ n2_ hOS hKK hW hV hN hT))
                go_roundw
                case rel => exact ⟨fun u => S u ∧ u ≠ ⟨d, tl, ts⟩, cnt2, _, _, HRG, ⟨(HNX.out.fold (fin := fin) (want := lf l fin ⟨d, tl, ts⟩) (itms l fin ⟨d, tl, ts⟩ l.length) (fun x hx => (itms_ok hn HTt.out x hx).2.2.1)).congr fun x => Gd.take HTK.out x⟩, HKK2, BW, BN, HT, HO, HOS⟩
                case measure => rw [HRG.out.left_eq]; have := HMS.out; rw [NL.out] at this; exact this
          · have c1b : decide (out.length < l.length) = false := decide_eq_false c1
            have e := (ordR_done c1 gk ks).symm.trans HRUN.out
            subst e
            go_wp2
            go_ret3
            exact ⟨_, rfl, HO.out, HOS.out.fr⟩
end Go.Proofs.Ytaapbnhggfmlpaa.P
end
section
namespace Go.Proofs.Ytaapbnhggfmlpaa.P
open Go.RowKit Go.Proofs.YtaapbnhggfmlpaaW.PrintWords Go.Proofs.YtaapbnhggfmlpaaW.PrintLast Go.Proofs.YtaapbnhggfmlpaaW.PrintMore
attribute [local go_sem] max2_int min2_int max_two min_two max_three min_three max_four min_four   -- for this text's walks alone
set_option linter.unusedVariables false
set_option linter.unusedSimpArgs false
end Go.Proofs.Ytaapbnhggfmlpaa.P
end
