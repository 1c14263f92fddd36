/- Lemmas and contracts of functions, part 4 of 9, for this law: The law FnExactBestBetween holds for every input. -/
import Derived.Test.YtaapbnhggfmlpaaExBetQ3
import Derived.Test.YtaapbnhggfmlpaaExBetQ2
import Derived.Test.YtaapbnhggfmlpaaExBetQ1
section
set_option linter.unusedVariables false
set_option linter.unusedSimpArgs false
namespace Go.Proofs.Ytaapbnhggfmlpaa.P
open Go.RowKit Go.Proofs.YtaapbnhggfmlpaaW.PrintWords Go.Proofs.YtaapbnhggfmlpaaW.PrintLast Go.Proofs.YtaapbnhggfmlpaaW.PrintMore
open Go.Proofs.Ytaapbnhggfmlpaa.M Go.Proofs.Ytaapbnhggfmlpaa.A
open Go.Proofs.Ytaapbnhggfmlpaa.B (Valid validBundle in_impl)
theorem Mem.start {w : World} {l : List (List Int)} {fin : Int} {gm : Nat} (h : TM w gm 0 (fun _ => none)) : Mem l fin gm w :=
  ⟨[], fun _ => none, List.nodup_nil, by simp, by simp, h⟩
theorem rows_ {l : List (List Int)} (V : Valid l) : ∀ j : Nat, j < l.length → (rd_Ls2 l j).length = l.length := V.row
/-- A slice of wires, as the call owns it, is a block of its own. -/
theorem own_form {e n : Nat} {w : World} {base : Nat} {v : Value} {xs : List Int} (h : Kd.R (Kd.int .i64) e w base (fun _ => True) v xs) (hp : 0 < xs.length) (hn : xs.length = n) :
    ∃ g cap, v = .slice (some ⟨g, 0, none⟩) n cap ∧ n ≤ cap ∧ ∃ cells, w.heap[g]? = some (.cells cells e (0, 0)) := by
  subst hn
  obtain ⟨g, cap, e1, h1, h2, h3⟩ := Kd.R_form h hp
  obtain ⟨A, c, e', h4, _⟩ := Kd.R_reads h
  rw [e1] at e'
  cases e'
  exact ⟨g, _, e1, h4, h3⟩
theorem order_own (w0 : World) (gp gb gm : Nat) (A : Option Addr) (c : Nat) (l : List (List Int)) (fin s : Int) (g cb base n : Nat) (ws : List Nat) (cells : Array Value) (w : World) (hn : l.length ≤ 9) (h0 : 0 < l.length) (hrow : ∀ j : Nat, j < l.length → (rd_Ls2 l j).length = l.length)
    (hs : 0 ≤ s ∧ s ≤ 9) (hws : ∀ (i : Nat) (h : i < ws.length), ws[i] < l.length) (hlen : ws.length ≤ 9) (hcb : n ≤ cb) (hnw : ws.length = n) (hW : PW w0 gp gb gm A c l fin w) (hM : Mem l fin gm w)
    (hR : Kd.R (Kd.int .i64) 3 w base (fun _ => True) (.slice (some ⟨g, 0, none⟩) n cb) (ws.map fun x : Nat => (x : Int))) (hg : w.heap[g]? = some (.cells cells 3 (0, 0))) (r1 : List Int) (r2 : Int) (r3 : Bool) (hr : orderF l fin s ws = (r1, r2, r3)) :
    Calls Try.prog 89 #[.pointer (some ⟨gp, 0, none⟩), .slice (some ⟨g, 0, none⟩) n cb, .int .i64 s] w fun e w' => ∃ v0_ : Value, e = .returned (.tuple #[v0_, .int .i64 r2, .bool r3]) ∧ Kd.R (Kd.int .i64) 2 w' w.heap.size (fun _ => True) v0_ r1 ∧ Fr (· = gm) w w' := by
  subst hnw
  refine order_ w0 gp gb gm A c l fin s ⟨g, 0, none⟩ cb ws w hn h0 hrow hs hws hlen hcb hW hM (hM.ne_cells hg) ?_ r1 r2 r3 hr
  intro i h
  have h1 := (Kd.R_celln (0 : Int) hR (i : Int) (by omega) (by omega)).1
  rw [Int.toNat_natCast] at h1
  rw [show (⟨g, 0, none⟩ : Addr).add i = ⟨g, i, none⟩ by simp [Addr.add]; exact Eq.symm, h1]
  simp [rdOf, h]
end Go.Proofs.Ytaapbnhggfmlpaa.P
end
section
set_option linter.unusedVariables false
set_option linter.unusedSimpArgs false
namespace Go.Proofs.Ytaapbnhggfmlpaa.P
open Go.RowKit Go.Proofs.YtaapbnhggfmlpaaW.PrintWords Go.Proofs.YtaapbnhggfmlpaaW.PrintLast Go.Proofs.YtaapbnhggfmlpaaW.PrintMore
open Go.Proofs.Ytaapbnhggfmlpaa.M Go.Proofs.Ytaapbnhggfmlpaa.A
open Go.Proofs.Ytaapbnhggfmlpaa.B (Valid validBundle in_impl)
def impl_BestBetween.f (l0_0 : List (List Int)) (a1 : Int) (a2 : Int) : Option (List Int × Int × Bool) :=
  (impl_ValidBundle.f 300 l0_0).bind fun v => if v = true ∧ (0 ≤ a1 ∧ a1 ≤ (l0_0.length : Int) - 1) ∧ (0 ≤ a2 ∧ a2 ≤ (l0_0.length : Int) - 1) ∧ (a1 = a2 ↔ (l0_0.length : Int) - 1 = 0) then some (orderF l0_0 a2 0 [a1.toNat]) else some ([], 0, false)
set_option maxHeartbeats 2000000 in
set_option maxRecDepth 100000 in
theorem impl_BestBetween.calls (A0_0 : Option Addr) (c0_0 : Nat) (l0_0 : List (List Int)) (a1 : Int) (a2 : Int) (r1 : List Int) (r2 : Int) (r3 : Bool) (w : World) (hr0_0 : Kd.C (Kd.slice 2 (Kd.int .i64)) w A0_0 l0_0.length l0_0) (hc0_0 : l0_0.length ≤ c0_0) (h : impl_BestBetween.f l0_0 a1 a2 = some (r1, r2, r3)) :
    Calls Try.prog 38 #[.agg #[.slice A0_0 l0_0.length c0_0], .int .i64 a1, .int .i64 a2] w fun e w' => ∃ v0_ : Value, e = .returned (.tuple #[v0_, .int .i64 r2, .bool r3]) ∧ Kd.R (Kd.int .i64) 2 w' w.heap.size (fun _ => True) v0_ r1 ∧ Below w.heap.size w w' := by
  obtain ⟨v, hv0, h⟩ := Option.bind_eq_some_iff.mp h
  have hv := Aside0.mk hv0
  have hVd : v = true → Valid l0_0 := fun e => by
    have := (validBundle l0_0 300 (by omega)).symm.trans hv0
    subst e
    simpa using this
  clear hv0
  have HR := Aside0.mk hr0_0
  have HC := Aside0.mk hc0_0
  have hmx := Kd.C_max hr0_0
  clear hr0_0 hc0_0
  have hu44 := Try.underlying44
  have HB := Aside0.mk (Below.refl w.heap.size w)
  cases v with
  | false =>
    rw [if_neg (fun h => by simp at h)] at h
    cases h
    clear hVd
    go_enter Try.func38, Try.ntmps38
    go_wp2_with (first
      | ((with_reducible refine gate_dst (N := 3) rfl ?_); refine box_event ?hg (N := 3) ?hd (cs := #[.slice A0_0 l0_0.length c0_0]) (t := 44) ?hr ?_; (case hd => rfl); (case hg => rfl); (case hr => first | (go_simp; done) | (go_simp; rfl)); intro gb hg w2 hbox hb; have n1_ := Aside0.mk (below_step HB.out hb); have n2_ := Aside0.mk hbox; clear HB hb hbox hg; have HB := n1_; have BK := n2_; clear n1_ n2_; have hcz := (blk_cell BK.out 0).trans rfl)
      | (go_at_call 54; (with_reducible refine (impl_ValidBundle.calls 300 _ _ l0_0 false _ ?s1a ?s1b hv.out).mono ?_); (case s1a => exact Kd.C_below HR.out HB.out); (case s1b => exact HC.out); rintro e w3 ⟨rfl, hb⟩; have n1_ := Aside0.mk (below_step HB.out hb); have n2_ := Aside0.mk (blk_below BK.out hb); clear HB hb BK hcz; have HB := n1_; have BK := n2_; clear n1_ n2_))
    go_ret3
    exact ⟨_, rfl, Kd.R_nil _ _ _ _ _, HB.out⟩
  | true =>
    have V := hVd rfl
    have n0 : 0 < l0_0.length := V.pos
    have n9 := V.le
    have HV := Aside0.mk V
    clear hVd V hmx
    by_cases h1 : 0 ≤ a1 ∧ a1 ≤ (l0_0.length : Int) - 1
    · have HIN1 : Aside0 (impl_in.f a1 0 ((l0_0.length : Int) - 1) = some true) := ⟨by rw [in_impl, decide_eq_true (by omega)]⟩
      by_cases h2 : 0 ≤ a2 ∧ a2 ≤ (l0_0.length : Int) - 1
      · have HIN2 : Aside0 (impl_in.f a2 0 ((l0_0.length : Int) - 1) = some true) := ⟨by rw [in_impl, decide_eq_true (by omega)]⟩
        by_cases h3 : a1 = a2 ↔ (l0_0.length : Int) - 1 = 0
        · rw [if_pos ⟨rfl, h1, h2, h3⟩] at h
          have HH := Aside0.mk (Option.some.inj h)
          clear h
          have hq : (a1 == a2) = ((l0_0.length : Int) - 1 == 0) := by
            rw [Bool.eq_iff_iff, beq_iff_eq, beq_iff_eq]
            exact h3
          have hne : ((a1 == a2) == ((l0_0.length : Int) - 1 == 0)) = true := by rw [hq]; simp
          clear hq h3
          obtain ⟨n, hn1, rfl⟩ : ∃ n : Nat, n < l0_0.length ∧ a1 = n := ⟨a1.toNat, by omega, by omega⟩
          simp only [Int.toNat_natCast] at HH
          obtain ⟨h20, h21⟩ := h2
          clear h1
          go_enter Try.func38, Try.ntmps38
          go_wp2_with (first
            | ((with_reducible refine gate_dst (N := 3) rfl ?_); refine box_event ?hg (N := 3) ?hd (cs := #[.slice A0_0 l0_0.length c0_0]) (t := 44) ?hr ?_; (case hd => rfl); (case hg => rfl); (case hr => first | (go_simp; done) | (go_simp; rfl)); intro gb hg w2 hbox hb; have n1_ := Aside0.mk (below_step HB.out hb); have n2_ := Aside0.mk hbox; clear HB hb hbox hg; have HB := n1_; have BK := n2_; clear n1_ n2_; have hcz := (blk_cell BK.out 0).trans rfl)
            | (go_at_call 54; (with_reducible refine (impl_ValidBundle.calls 300 _ _ l0_0 true _ ?s2a ?s2b hv.out).mono ?_); (case s2a => exact Kd.C_below HR.out HB.out); (case s2b => exact HC.out); rintro e w3 ⟨rfl, hb⟩; have n1_ := Aside0.mk (below_step HB.out hb); have n2_ := Aside0.mk (blk_below BK.out hb); clear HB hb BK hcz; have HB := n1_; have BK := n2_; clear n1_ n2_)
            | (go_at_call 64; (with_reducible refine (impl_in.calls n 0 ((l0_0.length : Int) - 1) true _ HIN1.out).mono ?_); rintro e w4 ⟨rfl, hd⟩; have hb := hd.below; have n1_ := Aside0.mk (below_step HB.out hb); have n2_ := Aside0.mk (blk_below BK.out hb); clear HB hb BK hd; have HB := n1_; have BK := n2_; clear n1_ n2_)
            | (go_at_call 64; (with_reducible refine (impl_in.calls a2 0 ((l0_0.length : Int) - 1) true _ HIN2.out).mono ?_); rintro e w4b ⟨rfl, hd⟩; have hb := hd.below; have n1_ := Aside0.mk (below_step HB.out hb); have n2_ := Aside0.mk (blk_below BK.out hb); clear HB hb BK hd; have HB := n1_; have BK := n2_; clear n1_ n2_)
            | (refine wp_tmake _ rfl rfl ?_; intro gm w5 hgm hT hb; have HT5 := Aside0.mk hT; have NB := Aside0.mk (show gb ≠ gm ∧ w.heap.size ≤ gm from ⟨fun e => by have := blk_lt BK.out; omega, by have := HB.out.size; omega⟩); have n1_ := Aside0.mk (below_step HB.out hb); have n2_ := Aside0.mk (blk_below BK.out hb); clear HB BK hT hb hgm; have HB := n1_; have BK := n2_; clear n1_ n2_)
            | ((with_reducible refine gate_store (t := 113) (p := 10) rfl ?_); refine store_event (t := 113) (p := 10) (v := .tmp 40) (w1 := w5.alloc (.cells #[.pointer (some ⟨gb, 0, none⟩), .int .i64 a2, .map (some gm)] 113 (0, 0))) ?hg ?ho ?hn ?hr ?_; (case ho => rfl); (case hg => rfl); (case hn => rfl); (case hr => first | (go_simp; done) | (go_simp; rfl)); intro w6 hw;
               have hb : Below w5.heap.size w5 w6 := (by rw [hw]; exact (Below.refl _ _).alloc (Nat.le_refl _) _); have BP := Aside0.mk (show w6.heap[w5.heap.size]? = some (.cells #[.pointer (some ⟨gb, 0, none⟩), .int .i64 a2, .map (some gm)] 113 (0, 0)) by rw [hw]; exact blk_new _ _);
               have NP := Aside0.mk (show w5.heap.size ≠ gm from fun e => by have := HT5.out.lt; omega); have n1_ := Aside0.mk (below_step HB.out hb); have n2_ := Aside0.mk (blk_below BK.out hb); have n3_ := Aside0.mk (HT5.out.below hb); clear HB BK HT5 hb hw; have HB := n1_; have BK := n2_; have HT := n3_; clear n1_ n2_ n3_;
               have HPW := Aside0.mk (PW.mk (w0 := w) (c := c0_0) HB.out NB.out.2 NP.out NB.out.1 BP.out BK.out HR.out); have HM := Aside0.mk (Mem.start (l := l0_0) (fin := a2) HT.out))
            | ((with_reducible refine gate_dst (N := 42) rfl ?_); refine Kd.R_lit (Kd.int .i64) (w0 := w6) w6.heap.size 3 ?hg (N := 42) ?hd (xs := ([(n : Int)] : List Int)) (inner := [.int .i64 n]) (ok := fun _ => True) (okp := fun _ => True) ?hr ?hp (fun _ hk => hk) trivial (Below.refl _ _) (Nat.le_refl _) (by simp) ?_; (case hd => rfl); (case hg => rfl); (case hr => first | (go_simp; done) | (go_simp; rfl)); (case hp => exact (Reps.one (show Kd.M (Kd.int .i64) _ _ _ (n : Int) [.int .i64 n] from rfl) (Reps.none _ _))); intro v7 w7 ho hb hg_ hnew_; clear hg_ hnew_;
               have HO := Aside0.mk ho; have n1_ := Aside0.mk (HPW.out.below hb); have n2_ := Aside0.mk (HM.out.below hb); clear HPW HM ho hb BK BP HT HB; have HPW := n1_; have HM := n2_; clear n1_ n2_; obtain ⟨Ab, cb, e7, hle, cells, hcells⟩ := own_form HO.out (by simp) (n := 1) (by simp); subst e7; have HLE := Aside0.mk hle; have HCE := Aside0.mk hcells; clear hle hcells)
            | (go_at_call 89; (with_reducible refine (order_own w w5.heap.size gb gm A0_0 c0_0 l0_0 a2 0 Ab cb w6.heap.size 1 [n] cells w7 n9 n0 (rows_ HV.out) ?u1 ?u2 ?u3 HLE.out ?u4 HPW.out HM.out ?u5 HCE.out r1 r2 r3 HH.out).mono ?_); (case u1 => omega); (case u5 => exact HO.out); (case u2 => intro i h; simp at h; subst h; exact hn1); (case u3 => simp); (case u4 => simp);
               rintro e w8 ⟨v8, rfl, ho, hf⟩; have HO8 := Aside0.mk (Kd.R_lower ho HPW.out.bl.size); have HB8 := Aside0.mk (Fr.below HPW.out.bl hf HPW.out.bl.size (fun k e => by rw [e]; exact NB.out.2)); clear ho hf))
          go_ret3
          exact ⟨_, rfl, HO8.out, HB8.out⟩
        · rw [if_neg (fun h => h3 h.2.2.2)] at h
          cases h
          have hne : ((a1 == a2) == ((l0_0.length : Int) - 1 == 0)) = false := by
            rw [beq_eq_false_iff_ne]
            intro e
            rw [Bool.eq_iff_iff, beq_iff_eq, beq_iff_eq] at e
            exact h3 e
          clear h3
          obtain ⟨h10, h11⟩ := h1
          obtain ⟨h20, h21⟩ := h2
          go_enter Try.func38, Try.ntmps38
          go_wp2_with (first
            | ((with_reducible refine gate_dst (N := 3) rfl ?_); refine box_event ?hg (N := 3) ?hd (cs := #[.slice A0_0 l0_0.length c0_0]) (t := 44) ?hr ?_; (case hd => rfl); (case hg => rfl); (case hr => first | (go_simp; done) | (go_simp; rfl)); intro gb hg w2 hbox hb; have n1_ := Aside0.mk (below_step HB.out hb); have n2_ := Aside0.mk hbox; clear HB hb hbox hg; have HB := n1_; have BK := n2_; clear n1_ n2_; have hcz := (blk_cell BK.out 0).trans rfl)
            | (go_at_call 54; (with_reducible refine (impl_ValidBundle.calls 300 _ _ l0_0 true _ ?s3a ?s3b hv.out).mono ?_); (case s3a => exact Kd.C_below HR.out HB.out); (case s3b => exact HC.out); rintro e w3 ⟨rfl, hb⟩; have n1_ := Aside0.mk (below_step HB.out hb); have n2_ := Aside0.mk (blk_below BK.out hb); clear HB hb BK hcz; have HB := n1_; have BK := n2_; clear n1_ n2_)
            | (go_at_call 64; (with_reducible refine (impl_in.calls a1 0 ((l0_0.length : Int) - 1) true _ HIN1.out).mono ?_); rintro e w4 ⟨rfl, hd⟩; have hb := hd.below; have n1_ := Aside0.mk (below_step HB.out hb); have n2_ := Aside0.mk (blk_below BK.out hb); clear HB hb BK hd; have HB := n1_; have BK := n2_; clear n1_ n2_)
            | (go_at_call 64; (with_reducible refine (impl_in.calls a2 0 ((l0_0.length : Int) - 1) true _ HIN2.out).mono ?_); rintro e w4b ⟨rfl, hd⟩; have hb := hd.below; have n1_ := Aside0.mk (below_step HB.out hb); have n2_ := Aside0.mk (blk_below BK.out hb); clear HB hb BK hd; have HB := n1_; have BK := n2_; clear n1_ n2_))
          go_ret3
          exact ⟨_, rfl, Kd.R_nil _ _ _ _ _, HB.out⟩
      · rw [if_neg (fun h => h2 h.2.2.1)] at h
        cases h
        have HIN2 : Aside0 (impl_in.f a2 0 ((l0_0.length : Int) - 1) = some false) := ⟨by rw [in_impl, decide_eq_false (by omega)]⟩
        clear h1 h2
        go_enter Try.func38, Try.ntmps38
        go_wp2_with (first
          | ((with_reducible refine gate_dst (N := 3) rfl ?_); refine box_event ?hg (N := 3) ?hd (cs := #[.slice A0_0 l0_0.length c0_0]) (t := 44) ?hr ?_; (case hd => rfl); (case hg => rfl); (case hr => first | (go_simp; done) | (go_simp; rfl)); intro gb hg w2 hbox hb; have n1_ := Aside0.mk (below_step HB.out hb); have n2_ := Aside0.mk hbox; clear HB hb hbox hg; have HB := n1_; have BK := n2_; clear n1_ n2_; have hcz := (blk_cell BK.out 0).trans rfl)
          | (go_at_call 54; (with_reducible refine (impl_ValidBundle.calls 300 _ _ l0_0 true _ ?s4a ?s4b hv.out).mono ?_); (case s4a => exact Kd.C_below HR.out HB.out); (case s4b => exact HC.out); rintro e w3 ⟨rfl, hb⟩; have n1_ := Aside0.mk (below_step HB.out hb); have n2_ := Aside0.mk (blk_below BK.out hb); clear HB hb BK hcz; have HB := n1_; have BK := n2_; clear n1_ n2_)
          | (go_at_call 64; (with_reducible refine (impl_in.calls a1 0 ((l0_0.length : Int) - 1) true _ HIN1.out).mono ?_); rintro e w4 ⟨rfl, hd⟩; have hb := hd.below; have n1_ := Aside0.mk (below_step HB.out hb); have n2_ := Aside0.mk (blk_below BK.out hb); clear HB hb BK hd; have HB := n1_; have BK := n2_; clear n1_ n2_)
          | (go_at_call 64; (with_reducible refine (impl_in.calls a2 0 ((l0_0.length : Int) - 1) false _ HIN2.out).mono ?_); rintro e w4b ⟨rfl, hd⟩; have hb := hd.below; have n1_ := Aside0.mk (below_step HB.out hb); have n2_ := Aside0.mk (blk_below BK.out hb); clear HB hb BK hd; have HB := n1_; have BK := n2_; clear n1_ n2_))
        go_ret3
        exact ⟨_, rfl, Kd.R_nil _ _ _ _ _, HB.out⟩
    · rw [if_neg (fun h => h1 h.2.1)] at h
      cases h
      have HIN1 : Aside0 (impl_in.f a1 0 ((l0_0.length : Int) - 1) = some false) := ⟨by rw [in_impl, decide_eq_false (by omega)]⟩
      clear h1
      go_enter Try.func38, Try.ntmps38
      go_wp2_with (first
        | ((with_reducible refine gate_dst (N := 3) rfl ?_); refine box_event ?hg (N := 3) ?hd (cs := #[.slice A0_0 l0_0.length c0_0]) (t := 44) ?hr ?_; (case hd => rfl); (case hg => rfl); (case hr => first | (go_simp; done) | (go_simp; rfl)); intro gb hg w2 hbox hb; have n1_ := Aside0.mk (below_step HB.out hb); have n2_ := Aside0.mk hbox; clear HB hb hbox hg; have HB := n1_; have BK := n2_; clear n1_ n2_; have hcz := (blk_cell BK.out 0).trans rfl)
        | (go_at_call 54; (with_reducible refine (impl_ValidBundle.calls 300 _ _ l0_0 true _ ?s5a ?s5b hv.out).mono ?_); (case s5a => exact Kd.C_below HR.out HB.out); (case s5b => exact HC.out); rintro e w3 ⟨rfl, hb⟩; have n1_ := Aside0.mk (below_step HB.out hb); have n2_ := Aside0.mk (blk_below BK.out hb); clear HB hb BK hcz; have HB := n1_; have BK := n2_; clear n1_ n2_)
        | (go_at_call 64; (with_reducible refine (impl_in.calls a1 0 ((l0_0.length : Int) - 1) false _ HIN1.out).mono ?_); rintro e w4 ⟨rfl, hd⟩; have hb := hd.below; have n1_ := Aside0.mk (below_step HB.out hb); have n2_ := Aside0.mk (blk_below BK.out hb); clear HB hb BK hd; have HB := n1_; have BK := n2_; clear n1_ n2_))
      go_ret3
      exact ⟨_, rfl, Kd.R_nil _ _ _ _ _, HB.out⟩
end Go.Proofs.Ytaapbnhggfmlpaa.P
end
section
namespace Go.Proofs.Ytaapbnhggfmlpaa.P
open Go.RowKit Go.Proofs.YtaapbnhggfmlpaaW.PrintWords Go.Proofs.YtaapbnhggfmlpaaW.PrintLast Go.Proofs.YtaapbnhggfmlpaaW.PrintMore
attribute [local go_sem] max2_int min2_int max_two min_two max_three min_three max_four min_four   -- for this text's walks alone
set_option linter.unusedVariables false
set_option linter.unusedSimpArgs false
def spec_l00In.f (a0 : Int) (a1 : Int) (a2 : Int) : Option (Bool) := if a0 ≥ a1 then (some (decide (a0 ≤ a2))) else (some false)
set_option maxHeartbeats 4000000 in
set_option maxRecDepth 100000 in
theorem spec_l00In.calls (a0 : Int) (a1 : Int) (a2 : Int) (r : Bool) (w : World) (h : spec_l00In.f a0 a1 a2 = some r) :
  Calls Try.prog 101 #[.int .i64 a0, .int .i64 a1, .int .i64 a2] w fun e w' => e = .returned (.bool r) ∧ Drawn0 w w' := by
 have H : (if a0 ≥ a1 then (some (decide (a0 ≤ a2))) else (some false)) = some r := h
 clear h
 by_cases c4 : a0 ≥ a1
 ·rw [if_pos c4] at H
  have c4b0 : decide (a1 ≤ a0) = true := decide_eq_true c4
  clear c4
  obtain rfl := Option.some.inj H
  go_enter Try.func101, Try.ntmps101
  go_wp2
  go_ret
  exact ⟨by first | rfl | (simp; done) | (simp [*]; done), by repeat (first | exact Drawn0.refl _ | apply Drawn0.step)⟩
 ·rw [if_neg c4] at H
  have c4b0 : decide (a1 ≤ a0) = false := decide_eq_false c4
  clear c4
  obtain rfl := Option.some.inj H
  go_enter Try.func101, Try.ntmps101
  go_wp2
  go_ret
  exact ⟨by first | rfl | (simp; done) | (simp [*]; done), by repeat (first | exact Drawn0.refl _ | apply Drawn0.step)⟩
end Go.Proofs.Ytaapbnhggfmlpaa.P
end
section
namespace Go.Proofs.Ytaapbnhggfmlpaa.P
open Go.RowKit Go.Proofs.YtaapbnhggfmlpaaW.PrintWords Go.Proofs.YtaapbnhggfmlpaaW.PrintLast Go.Proofs.YtaapbnhggfmlpaaW.PrintMore
attribute [local go_sem] max2_int min2_int max_two min_two max_three min_three max_four min_four   -- for this text's walks alone
set_option linter.unusedVariables false
set_option linter.unusedSimpArgs false
mutual
def spec_l10Is.l0 : Nat → Int → Int → List (List Int) → Option (Bool)
 | 0, _, _, _ => none
 | k + 1, x3, x4, x1000 => if x4 < x3 then (if 0 ≤ x4 then (if x4 < (x1000.length : Int) then (if ((rd_Ls2 x1000 x4).length : Int) = x3 then (spec_l10Is.l0 k x3 (wrap64 (x4 + 1)) x1000) else (some false)) else (none)) else (none)) else (spec_l10Is.l1 k x3 0 x1000)
def spec_l10Is.l1 : Nat → Int → Int → List (List Int) → Option (Bool)
 | 0, _, _, _ => none
 | k + 1, x3, x5, x1000 => if x5 < x3 then (spec_l10Is.l2 k x3 x5 0 x1000) else (some true)
def spec_l10Is.l2 : Nat → Int → Int → Int → List (List Int) → Option (Bool)
 | 0, _, _, _, _ => none
 | k + 1, x3, x5, x6, x1000 => if x6 < x3 then (if 0 ≤ x5 then (if x5 < (x1000.length : Int) then (if 0 ≤ x6 then (if x6 < ((rd_Ls2 x1000 x5).length : Int) then ((spec_l00In.f (rd (rd_Ls2 x1000 x5) x6) 0 1000).bind fun t310 => (if t310 = true then (if x6 < (x1000.length : Int) then (if x5 < ((rd_Ls2 x1000 x6).length : Int) then (if (rd (rd_Ls2 x1000 x5) x6) = (rd (rd_Ls2 x1000 x6) x5) then (if x5 < ((rd_Ls2 x1000 x5).length : Int) then (spec_l10Is.j3 k x3 x5 x6 ((rd (rd_Ls2 x1000 x5) x5) != 0) x1000) else (none)) else (spec_l10Is.j3 k x3 x5 x6 true x1000)) else (none)) else (none)) else (spec_l10Is.j3 k x3 x5 x6 true x1000))) else (none)) else (none)) else (none)) else (none)) else (spec_l10Is.l1 k x3 (wrap64 (x5 + 1)) x1000)
def spec_l10Is.j3 : Nat → Int → Int → Int → Bool → List (List Int) → Option (Bool)
 | 0, _, _, _, _, _ => none
 | k + 1, x3, x5, x6, x87, x1000 => if x87 = true then (some false) else (spec_l10Is.l2 k x3 x5 (wrap64 (x6 + 1)) x1000)
end
def spec_l10Is.f (k : Nat) (l0_0 : List (List Int)) : Option (Bool) := (spec_l00In.f (l0_0.length : Int) 1 9).bind fun t306 => (if t306 = true then (spec_l10Is.l0 k (l0_0.length : Int) 0 l0_0) else (some false))
set_option maxHeartbeats 4000000 in
set_option maxRecDepth 100000 in
theorem spec_l10Is.calls (k : Nat) (g0 : Nat) (A0_0 : Option Addr) (c0_0 : Nat) (l0_0 : List (List Int)) (r : Bool) (w : World) (hb0 : w.heap[g0]? = some (.cells #[.slice A0_0 l0_0.length c0_0] 44 (0, 0))) (hr0_0 : Kd.C (Kd.slice 2 (Kd.int .i64)) w A0_0 l0_0.length l0_0) (hc0_0 : l0_0.length ≤ c0_0) (h : spec_l10Is.f k l0_0 = some r) :
  Calls Try.prog 74 #[.pointer (some ⟨g0, 0, none⟩)] w fun e w' => e = .returned (.bool r) ∧ Drawn0 w w' := by
 have HR0_0 := Aside0.mk hr0_0
 have HC0_0 := Aside0.mk hc0_0
 clear hr0_0 hc0_0
 have BK0 := Aside0.mk hb0
 clear hb0
 have H : ((spec_l00In.f (l0_0.length : Int) 1 9).bind fun t306 => (if t306 = true then (spec_l10Is.l0 k (l0_0.length : Int) 0 l0_0) else (some false))) = some r := h
 clear h
 replace H := Option.bind_eq_some_iff.mp H
 obtain ⟨t306, A20, H⟩ := H
 replace H : (if t306 = true then (spec_l10Is.l0 k (l0_0.length : Int) 0 l0_0) else (some false)) = some r := H
 have A2 := Aside0.mk A20
 clear A20
 by_cases c3 : t306 = true
 ·subst c3
  have H1 : (spec_l10Is.l0 k (l0_0.length : Int) 0 l0_0) = some r := by rw [if_pos rfl] at H; exact H
  clear H
  have H := H1
  clear H1
  have H' := Aside0.mk H
  clear H
  have hcz4_0 : w.cell? ⟨g0, 0, none⟩ = some (.slice A0_0 l0_0.length c0_0) := (blk_cell BK0.out 0).trans rfl
  have hfz4_0 := blk_frozen BK0.out 0
  go_enter Try.func74, Try.ntmps74
  go_wp2_with (first | (go_at_call 101; (with_reducible refine (spec_l00In.calls (l0_0.length : Int) 1 9 true _ A2.out).mono ?_); rintro e w' ⟨rfl, ⟨nd, rfl⟩⟩; (try first | exact ⟨rfl, _, World.drewN_drewN _ _ _⟩ | exact ⟨rfl, _, Eq.trans (World.drewN_drewN _ _ _) (congrArg (World.drewN _) (Nat.add_assoc _ _ _))⟩)))
  repeat (go_quiet (first | (go_at_call 101; (with_reducible refine (spec_l00In.calls (l0_0.length : Int) 1 9 true _ A2.out).mono ?_); rintro e w' ⟨rfl, ⟨nd, rfl⟩⟩; (try first | exact ⟨rfl, _, World.drewN_drewN _ _ _⟩ | exact ⟨rfl, _, Eq.trans (World.drewN_drewN _ _ _) (congrArg (World.drewN _) (Nat.add_assoc _ _ _))⟩))); try go_wp2_with (first | (go_at_call 101; (with_reducible refine (spec_l00In.calls (l0_0.length : Int) 1 9 true _ A2.out).mono ?_); rintro e w' ⟨rfl, ⟨nd, rfl⟩⟩; (try first | exact ⟨rfl, _, World.drewN_drewN _ _ _⟩ | exact ⟨rfl, _, Eq.trans (World.drewN_drewN _ _ _) (congrArg (World.drewN _) (Nat.add_assoc _ _ _))⟩))))
  go_loopg [4] k (fun kq v4 w' => ∃ (x4_1 : Int), v4 = .int .i64 x4_1 ∧ Aside0 (spec_l10Is.l0 kq (l0_0.length : Int) x4_1 l0_0 = some r) ∧ Aside0 (kq ≤ k) ∧ Aside0 (w'.heap[g0]? = some (.cells #[(.slice A0_0 l0_0.length c0_0)] 44 (0, 0))) ∧ Drawn0 w w')
  case atStart => exact ⟨(0), (by first | rfl | (simp; done) | (simp [*]; done)), H', ⟨Nat.le_refl _⟩, ⟨by (with_reducible repeat first | refine b_N ?_ _ | refine b_D ?_ | refine b_A ?_ _); exact BK0.out⟩, by repeat (first | exact Drawn0.refl _ | apply Drawn0.step)⟩
  case round =>
   clear H'
   try clear p2
   try clear c3
   try clear hcz4_0
   try clear hfz4_0
   obtain ⟨x4_1, rfl, HA, HK1, BK0, ⟨m1, rfl⟩⟩ := hrel
   cases gk with
   | zero => exact absurd HA.out (by simp [spec_l10Is.l0])
   | succ k1 =>
    have H := HA.out
    clear HA
    simp only [spec_l10Is.l0] at H
    by_cases c5 : x4_1 < (l0_0.length : Int)
    ·rw [if_pos c5] at H
     have c5b0 : decide (x4_1 < (l0_0.length : Int)) = true := decide_eq_true c5
     clear c5
     by_cases c6 : 0 ≤ x4_1
     ·rw [if_pos c6] at H
      have c6b0 : decide (0 ≤ x4_1) = true := decide_eq_true c6
      clear c6
      by_cases c7 : x4_1 < (l0_0.length : Int)
      ·rw [if_pos c7] at H
       have c7b0 : decide (x4_1 < (l0_0.length : Int)) = true := decide_eq_true c7
       clear c7
       by_cases c8 : ((rd_Ls2 l0_0 x4_1).length : Int) = (l0_0.length : Int)
       ·rw [if_pos c8] at H
        have c8b0 : (((rd_Ls2 l0_0 x4_1).length : Int) == (l0_0.length : Int)) = true := beq_iff_eq.mpr c8
        have c8b1 : (((rd_Ls2 l0_0 x4_1).length : Int) != (l0_0.length : Int)) = false := bne_eq_false_iff_eq.mpr c8
        have c8b2 : ((rd_Ls2 l0_0 x4_1).length == l0_0.length) = true := by first | simpa using c8 | (simp at c8 ⊢; omega)
        clear c8
        have H' := Aside0.mk H
        clear H
        have hcz9_0 : w.cell? ⟨g0, 0, none⟩ = some (.slice A0_0 l0_0.length c0_0) := (blk_cell BK0.out 0).trans rfl
        have hfz9_0 := blk_frozen BK0.out 0
        have p307 : 0 ≤ (x4_1 : Int) := of_decide_eq_true (by first | (with_reducible assumption) | assumption)
        have q307 : x4_1 < (l0_0.length : Int) := of_decide_eq_true (by first | (with_reducible assumption) | assumption)
        obtain ⟨ad307, A307_0, c307_0, e307, hx307_0, hl307_0, hi307_0⟩ := at_Ls2 HR0_0.out x4_1 p307 q307
        cases e307
        have HR307_0 := Aside0.mk hi307_0
        have HC307_0 := Aside0.mk hl307_0
        clear hi307_0 hl307_0
        replace p307 := eq_true p307
        replace q307 := eq_true q307
        go_wp2
        repeat (go_quiet (fail); try go_wp2)
        go_roundg k1
        case measure => have := HK1.out; omega
        case rel => exact ⟨(wrap64 (x4_1 + 1)), (by first | rfl | (simp; done) | (simp [*]; done)), H', ⟨by have := HK1.out; omega⟩, ⟨by (with_reducible repeat first | refine b_N ?_ _ | refine b_D ?_ | refine b_A ?_ _); exact BK0.out⟩, by repeat (first | exact Drawn0.refl _ | apply Drawn0.step)⟩
       ·rw [if_neg c8] at H
        have c8b0 : (((rd_Ls2 l0_0 x4_1).length : Int) == (l0_0.length : Int)) = false := beq_eq_false_iff_ne.mpr c8
        have c8b1 : (((rd_Ls2 l0_0 x4_1).length : Int) != (l0_0.length : Int)) = true := bne_iff_ne.mpr c8
        have c8b2 : ((rd_Ls2 l0_0 x4_1).length == l0_0.length) = false := by first | simpa using c8 | (simp at c8 ⊢; omega)
        obtain rfl := Option.some.inj H
        have hcz10_0 : w.cell? ⟨g0, 0, none⟩ = some (.slice A0_0 l0_0.length c0_0) := (blk_cell BK0.out 0).trans rfl
        have hfz10_0 := blk_frozen BK0.out 0
        have p307 : 0 ≤ (x4_1 : Int) := of_decide_eq_true (by first | (with_reducible assumption) | assumption)
        have q307 : x4_1 < (l0_0.length : Int) := of_decide_eq_true (by first | (with_reducible assumption) | assumption)
        obtain ⟨ad307, A307_0, c307_0, e307, hx307_0, hl307_0, hi307_0⟩ := at_Ls2 HR0_0.out x4_1 p307 q307
        cases e307
        have HR307_0 := Aside0.mk hi307_0
        have HC307_0 := Aside0.mk hl307_0
        clear hi307_0 hl307_0
        replace p307 := eq_true p307
        replace q307 := eq_true q307
        go_wp2
        repeat (go_quiet (fail); try go_wp2)
        go_ret
        exact ⟨by first | rfl | (simp; done) | (simp [*]; done), by repeat (first | exact Drawn0.refl _ | apply Drawn0.step)⟩
      ·rw [if_neg c7] at H
       exact absurd H (by simp)
     ·rw [if_neg c6] at H
      exact absurd H (by simp)
    ·rw [if_neg c5] at H
     have c5b0 : decide (x4_1 < (l0_0.length : Int)) = false := decide_eq_false c5
     clear c5
     have H' := Aside0.mk H
     clear H
     go_wp2
     repeat (go_quiet (fail); try go_wp2)
     go_loopg [5] k1 (fun kq v5 w' => ∃ (x5_2 : Int), v5 = .int .i64 x5_2 ∧ Aside0 (spec_l10Is.l1 kq (l0_0.length : Int) x5_2 l0_0 = some r) ∧ Aside0 (kq ≤ k1) ∧ Aside0 (w'.heap[g0]? = some (.cells #[(.slice A0_0 l0_0.length c0_0)] 44 (0, 0))) ∧ Drawn0 w w')
     case atStart => exact ⟨(0), (by first | rfl | (simp; done) | (simp [*]; done)), H', ⟨Nat.le_refl _⟩, ⟨by (with_reducible repeat first | refine b_N ?_ _ | refine b_D ?_ | refine b_A ?_ _); exact BK0.out⟩, by repeat (first | exact Drawn0.refl _ | apply Drawn0.step)⟩
     case round =>
      clear H'
      try clear p2
      try clear c3
      try clear p3
      try clear q3
      try clear hx3
      try clear c5
      try clear c5b0
      try clear c6
      try clear c6b0
      try clear p6
      try clear c7
      try clear c7b0
      try clear c8
      try clear c8b0
      try clear c8b1
      try clear c8b2
      try clear hcz10_0
      try clear hcz4_0
      try clear hcz9_0
      try clear hfz10_0
      try clear hfz4_0
      try clear hfz9_0
      try clear hx307_0
      try clear p2
      try clear p307
      try clear q307
      obtain ⟨x5_2, rfl, HA, HK2, BK0, ⟨m2, rfl⟩⟩ := hrel
      cases gk with
      | zero => exact absurd HA.out (by simp [spec_l10Is.l1])
      | succ k2 =>
       have H := HA.out
       clear HA
       simp only [spec_l10Is.l1] at H
       by_cases c11 : x5_2 < (l0_0.length : Int)
       ·rw [if_pos c11] at H
        have c11b0 : decide (x5_2 < (l0_0.length : Int)) = true := decide_eq_true c11
        clear c11
        have H' := Aside0.mk H
        clear H
        go_wp2
        repeat (go_quiet (fail); try go_wp2)
        go_loopg [6] k2 (fun kq v6 w' => ∃ (x6_3 : Int), v6 = .int .i64 x6_3 ∧ Aside0 (spec_l10Is.l2 kq (l0_0.length : Int) x5_2 x6_3 l0_0 = some r) ∧ Aside0 (kq ≤ k2) ∧ Aside0 (w'.heap[g0]? = some (.cells #[(.slice A0_0 l0_0.length c0_0)] 44 (0, 0))) ∧ Drawn0 w w')
        case atStart => exact ⟨(0), (by first | rfl | (simp; done) | (simp [*]; done)), H', ⟨Nat.le_refl _⟩, ⟨by (with_reducible repeat first | refine b_N ?_ _ | refine b_D ?_ | refine b_A ?_ _); exact BK0.out⟩, by repeat (first | exact Drawn0.refl _ | apply Drawn0.step)⟩
        case round =>
         clear H'
         try clear c1
         try clear p2
         try clear c3
         try clear p3
         try clear q3
         try clear hx3
         try clear c5
         try clear c5b0
         try clear c6
         try clear c6b0
         try clear p6
         try clear c7
         try clear c7b0
         try clear c8
         try clear c8b0
         try clear c8b1
         try clear c8b2
         try clear c11
         try clear c11b0
         try clear hcz10_0
         try clear hcz4_0
         try clear hcz9_0
         try clear hfz10_0
         try clear hfz4_0
         try clear hfz9_0
         try clear hx307_0
         try clear p2
         try clear p3
         try clear p307
         try clear p6
         try clear q3
         try clear q307
         obtain ⟨x6_3, rfl, HA, HK3, BK0, ⟨m3, rfl⟩⟩ := hrel
         cases gk with
         | zero => exact absurd HA.out (by simp [spec_l10Is.l2])
         | succ k3 =>
          have H := HA.out
          clear HA
          simp only [spec_l10Is.l2] at H
          by_cases c12 : x6_3 < (l0_0.length : Int)
          ·rw [if_pos c12] at H
           have c12b0 : decide (x6_3 < (l0_0.length : Int)) = true := decide_eq_true c12
           clear c12
           have HC13 := Aside0.mk H
           clear H
           go_upto_region 15 with (fail)
           repeat (go_quiet (fail); go_upto_region 15 with (fail))
           go_cut [87] (fun v87 wc => ∃ (kq : Nat) (x87_12 : Bool), v87 = .bool x87_12 ∧ Aside0 (spec_l10Is.j3 kq (l0_0.length : Int) x5_2 x6_3 x87_12 l0_0 = some r) ∧ Aside0 (kq ≤ k3) ∧ Aside0 (wc.heap[g0]? = some (.cells #[(.slice A0_0 l0_0.length c0_0)] 44 (0, 0))) ∧ Drawn0 w wc)
           case first =>
            have H := HC13.out
            clear HC13
            by_cases c14 : 0 ≤ x5_2
            ·rw [if_pos c14] at H
             have c14b0 : decide (0 ≤ x5_2) = true := decide_eq_true c14
             clear c14
             (first | rw [c14b0] | (simp only [i64_w, i32_w]; rw [c14b0]) | skip)
             by_cases c15 : x5_2 < (l0_0.length : Int)
             ·rw [if_pos c15] at H
              have c15b0 : decide (x5_2 < (l0_0.length : Int)) = true := decide_eq_true c15
              clear c15
              by_cases c16 : 0 ≤ x6_3
              ·rw [if_pos c16] at H
               have c16b0 : decide (0 ≤ x6_3) = true := decide_eq_true c16
               clear c16
               by_cases c17 : x6_3 < ((rd_Ls2 l0_0 x5_2).length : Int)
               ·rw [if_pos c17] at H
                have c17b0 : decide (x6_3 < ((rd_Ls2 l0_0 x5_2).length : Int)) = true := decide_eq_true c17
                clear c17
                replace H := Option.bind_eq_some_iff.mp H
                obtain ⟨t310, A180, H⟩ := H
                replace H : (if t310 = true then (if x6_3 < (l0_0.length : Int) then (if x5_2 < ((rd_Ls2 l0_0 x6_3).length : Int) then (if (rd (rd_Ls2 l0_0 x5_2) x6_3) = (rd (rd_Ls2 l0_0 x6_3) x5_2) then (if x5_2 < ((rd_Ls2 l0_0 x5_2).length : Int) then (spec_l10Is.j3 k3 (l0_0.length : Int) x5_2 x6_3 ((rd (rd_Ls2 l0_0 x5_2) x5_2) != 0) l0_0) else (none)) else (spec_l10Is.j3 k3 (l0_0.length : Int) x5_2 x6_3 true l0_0)) else (none)) else (none)) else (spec_l10Is.j3 k3 (l0_0.length : Int) x5_2 x6_3 true l0_0)) = some r := H
                have A18 := Aside0.mk A180
                clear A180
                by_cases c19 : t310 = true
                ·subst c19
                 have H1 : (if x6_3 < (l0_0.length : Int) then (if x5_2 < ((rd_Ls2 l0_0 x6_3).length : Int) then (if (rd (rd_Ls2 l0_0 x5_2) x6_3) = (rd (rd_Ls2 l0_0 x6_3) x5_2) then (if x5_2 < ((rd_Ls2 l0_0 x5_2).length : Int) then (spec_l10Is.j3 k3 (l0_0.length : Int) x5_2 x6_3 ((rd (rd_Ls2 l0_0 x5_2) x5_2) != 0) l0_0) else (none)) else (spec_l10Is.j3 k3 (l0_0.length : Int) x5_2 x6_3 true l0_0)) else (none)) else (none)) = some r := by rw [if_pos rfl] at H; exact H
                 clear H
                 have H := H1
                 clear H1
                 by_cases c20 : x6_3 < (l0_0.length : Int)
                 ·rw [if_pos c20] at H
                  have c20b0 : decide (x6_3 < (l0_0.length : Int)) = true := decide_eq_true c20
                  clear c20
                  by_cases c21 : x5_2 < ((rd_Ls2 l0_0 x6_3).length : Int)
                  ·rw [if_pos c21] at H
                   have c21b0 : decide (x5_2 < ((rd_Ls2 l0_0 x6_3).length : Int)) = true := decide_eq_true c21
                   clear c21
                   by_cases c22 : (rd (rd_Ls2 l0_0 x5_2) x6_3) = (rd (rd_Ls2 l0_0 x6_3) x5_2)
                   ·rw [if_pos c22] at H
                    have c22b0 : ((rd (rd_Ls2 l0_0 x5_2) x6_3) == (rd (rd_Ls2 l0_0 x6_3) x5_2)) = true := beq_iff_eq.mpr c22
                    have c22b1 : ((rd (rd_Ls2 l0_0 x5_2) x6_3) != (rd (rd_Ls2 l0_0 x6_3) x5_2)) = false := bne_eq_false_iff_eq.mpr c22
                    clear c22
                    by_cases c23 : x5_2 < ((rd_Ls2 l0_0 x5_2).length : Int)
                    ·rw [if_pos c23] at H
                     have c23b0 : decide (x5_2 < ((rd_Ls2 l0_0 x5_2).length : Int)) = true := decide_eq_true c23
                     clear c23
                     have H' := Aside0.mk H
                     clear H
                     have hcz24_0 : w.cell? ⟨g0, 0, none⟩ = some (.slice A0_0 l0_0.length c0_0) := (blk_cell BK0.out 0).trans rfl
                     have hfz24_0 := blk_frozen BK0.out 0
                     have p308 : 0 ≤ (x5_2 : Int) := of_decide_eq_true (by first | (with_reducible assumption) | assumption)
                     have q308 : x5_2 < (l0_0.length : Int) := of_decide_eq_true (by first | (with_reducible assumption) | assumption)
                     obtain ⟨ad308, A308_0, c308_0, e308, hx308_0, hl308_0, hi308_0⟩ := at_Ls2 HR0_0.out x5_2 p308 q308
                     cases e308
                     have HR308_0 := Aside0.mk hi308_0
                     have HC308_0 := Aside0.mk hl308_0
                     clear hi308_0 hl308_0
                     replace p308 := eq_true p308
                     replace q308 := eq_true q308
                     have p309 : 0 ≤ (x6_3 : Int) := of_decide_eq_true (by first | (with_reducible assumption) | assumption)
                     have q309 : x6_3 < ((rd_Ls2 l0_0 x5_2).length : Int) := of_decide_eq_true (by first | (with_reducible assumption) | assumption)
                     obtain ⟨ad309, e309, hx309_0⟩ := Kd.at_int HR308_0.out x6_3 p309 q309
                     cases e309
                     replace p309 := eq_true p309
                     replace q309 := eq_true q309
                     have p311 : 0 ≤ (x5_2 : Int) := of_decide_eq_true (by first | (with_reducible assumption) | assumption)
                     have q311 : x5_2 < (l0_0.length : Int) := of_decide_eq_true (by first | (with_reducible assumption) | assumption)
                     obtain ⟨ad311, A311_0, c311_0, e311, hx311_0, hl311_0, hi311_0⟩ := at_Ls2 HR0_0.out x5_2 p311 q311
                     obtain rfl : ad308 = ad311 := (by injection e311)
                     have HR311_0 := Aside0.mk hi311_0
                     have HC311_0 := Aside0.mk hl311_0
                     clear hi311_0 hl311_0
                     replace p311 := eq_true p311
                     replace q311 := eq_true q311
                     have ea_ := Option.some.inj (hx308_0.symm.trans hx311_0)
                     injection ea_ with ea_ en_ ec_
                     subst ea_
                     subst ec_
                     clear en_
                     have p312 : 0 ≤ (x6_3 : Int) := of_decide_eq_true (by first | (with_reducible assumption) | assumption)
                     have q312 : x6_3 < ((rd_Ls2 l0_0 x5_2).length : Int) := of_decide_eq_true (by first | (with_reducible assumption) | assumption)
                     obtain ⟨ad312, e312, hx312_0⟩ := Kd.at_int HR311_0.out x6_3 p312 q312
                     cases e312
                     replace p312 := eq_true p312
                     replace q312 := eq_true q312
                     have p313 : 0 ≤ (x6_3 : Int) := of_decide_eq_true (by first | (with_reducible assumption) | assumption)
                     have q313 : x6_3 < (l0_0.length : Int) := of_decide_eq_true (by first | (with_reducible assumption) | assumption)
                     obtain ⟨ad313, A313_0, c313_0, e313, hx313_0, hl313_0, hi313_0⟩ := at_Ls2 HR0_0.out x6_3 p313 q313
                     obtain rfl : ad308 = ad313 := (by injection e313)
                     have HR313_0 := Aside0.mk hi313_0
                     have HC313_0 := Aside0.mk hl313_0
                     clear hi313_0 hl313_0
                     replace p313 := eq_true p313
                     replace q313 := eq_true q313
                     have p314 : 0 ≤ (x5_2 : Int) := of_decide_eq_true (by first | (with_reducible assumption) | assumption)
                     have q314 : x5_2 < ((rd_Ls2 l0_0 x6_3).length : Int) := of_decide_eq_true (by first | (with_reducible assumption) | assumption)
                     obtain ⟨ad314, e314, hx314_0⟩ := Kd.at_int HR313_0.out x5_2 p314 q314
                     cases e314
                     replace p314 := eq_true p314
                     replace q314 := eq_true q314
                     have p315 : 0 ≤ (x5_2 : Int) := of_decide_eq_true (by first | (with_reducible assumption) | assumption)
                     have q315 : x5_2 < (l0_0.length : Int) := of_decide_eq_true (by first | (with_reducible assumption) | assumption)
                     obtain ⟨ad315, A315_0, c315_0, e315, hx315_0, hl315_0, hi315_0⟩ := at_Ls2 HR0_0.out x5_2 p315 q315
                     obtain rfl : ad308 = ad315 := (by injection e315)
                     have HR315_0 := Aside0.mk hi315_0
                     have HC315_0 := Aside0.mk hl315_0
                     clear hi315_0 hl315_0
                     replace p315 := eq_true p315
                     replace q315 := eq_true q315
                     have ea_ := Option.some.inj (hx308_0.symm.trans hx315_0)
                     injection ea_ with ea_ en_ ec_
                     subst ea_
                     subst ec_
                     clear en_
                     have p316 : 0 ≤ (x5_2 : Int) := of_decide_eq_true (by first | (with_reducible assumption) | assumption)
                     have q316 : x5_2 < ((rd_Ls2 l0_0 x5_2).length : Int) := of_decide_eq_true (by first | (with_reducible assumption) | assumption)
                     obtain ⟨ad316, e316, hx316_0⟩ := Kd.at_int HR315_0.out x5_2 p316 q316
                     cases e316
                     replace p316 := eq_true p316
                     replace q316 := eq_true q316
                     go_wp2_with (first | (go_at_call 101; (with_reducible refine (spec_l00In.calls (rd (rd_Ls2 l0_0 x5_2) x6_3) 0 1000 true _ A18.out).mono ?_); rintro e w' ⟨rfl, ⟨nd, rfl⟩⟩; (try first | exact ⟨rfl, _, World.drewN_drewN _ _ _⟩ | exact ⟨rfl, _, Eq.trans (World.drewN_drewN _ _ _) (congrArg (World.drewN _) (Nat.add_assoc _ _ _))⟩)))
                     repeat (go_quiet (first | (go_at_call 101; (with_reducible refine (spec_l00In.calls (rd (rd_Ls2 l0_0 x5_2) x6_3) 0 1000 true _ A18.out).mono ?_); rintro e w' ⟨rfl, ⟨nd, rfl⟩⟩; (try first | exact ⟨rfl, _, World.drewN_drewN _ _ _⟩ | exact ⟨rfl, _, Eq.trans (World.drewN_drewN _ _ _) (congrArg (World.drewN _) (Nat.add_assoc _ _ _))⟩))); try go_wp2_with (first | (go_at_call 101; (with_reducible refine (spec_l00In.calls (rd (rd_Ls2 l0_0 x5_2) x6_3) 0 1000 true _ A18.out).mono ?_); rintro e w' ⟨rfl, ⟨nd, rfl⟩⟩; (try first | exact ⟨rfl, _, World.drewN_drewN _ _ _⟩ | exact ⟨rfl, _, Eq.trans (World.drewN_drewN _ _ _) (congrArg (World.drewN _) (Nat.add_assoc _ _ _))⟩))))
                     go_meet
                     case rel => exact ⟨_, (((rd (rd_Ls2 l0_0 x5_2) x5_2) != 0)), (by first | rfl | (simp; done) | (simp [*]; done)), H', ⟨by have := HK1.out; have := HK2.out; have := HK3.out; first | omega | exact Nat.le_refl _⟩, ⟨by (with_reducible repeat first | refine b_N ?_ _ | refine b_D ?_ | refine b_A ?_ _); exact BK0.out⟩, by repeat (first | exact Drawn0.refl _ | apply Drawn0.step)⟩
                    ·rw [if_neg c23] at H
                     exact absurd H (by simp)
                   ·rw [if_neg c22] at H
                    have c22b0 : ((rd (rd_Ls2 l0_0 x5_2) x6_3) == (rd (rd_Ls2 l0_0 x6_3) x5_2)) = false := beq_eq_false_iff_ne.mpr c22
                    have c22b1 : ((rd (rd_Ls2 l0_0 x5_2) x6_3) != (rd (rd_Ls2 l0_0 x6_3) x5_2)) = true := bne_iff_ne.mpr c22
                    have H' := Aside0.mk H
                    clear H
                    have hcz25_0 : w.cell? ⟨g0, 0, none⟩ = some (.slice A0_0 l0_0.length c0_0) := (blk_cell BK0.out 0).trans rfl
                    have hfz25_0 := blk_frozen BK0.out 0
                    have p308 : 0 ≤ (x5_2 : Int) := of_decide_eq_true (by first | (with_reducible assumption) | assumption)
                    have q308 : x5_2 < (l0_0.length : Int) := of_decide_eq_true (by first | (with_reducible assumption) | assumption)
                    obtain ⟨ad308, A308_0, c308_0, e308, hx308_0, hl308_0, hi308_0⟩ := at_Ls2 HR0_0.out x5_2 p308 q308
                    cases e308
                    have HR308_0 := Aside0.mk hi308_0
                    have HC308_0 := Aside0.mk hl308_0
                    clear hi308_0 hl308_0
                    replace p308 := eq_true p308
                    replace q308 := eq_true q308
                    have p309 : 0 ≤ (x6_3 : Int) := of_decide_eq_true (by first | (with_reducible assumption) | assumption)
                    have q309 : x6_3 < ((rd_Ls2 l0_0 x5_2).length : Int) := of_decide_eq_true (by first | (with_reducible assumption) | assumption)
                    obtain ⟨ad309, e309, hx309_0⟩ := Kd.at_int HR308_0.out x6_3 p309 q309
                    cases e309
                    replace p309 := eq_true p309
                    replace q309 := eq_true q309
                    have p311 : 0 ≤ (x5_2 : Int) := of_decide_eq_true (by first | (with_reducible assumption) | assumption)
                    have q311 : x5_2 < (l0_0.length : Int) := of_decide_eq_true (by first | (with_reducible assumption) | assumption)
                    obtain ⟨ad311, A311_0, c311_0, e311, hx311_0, hl311_0, hi311_0⟩ := at_Ls2 HR0_0.out x5_2 p311 q311
                    obtain rfl : ad308 = ad311 := (by injection e311)
                    have HR311_0 := Aside0.mk hi311_0
                    have HC311_0 := Aside0.mk hl311_0
                    clear hi311_0 hl311_0
                    replace p311 := eq_true p311
                    replace q311 := eq_true q311
                    have ea_ := Option.some.inj (hx308_0.symm.trans hx311_0)
                    injection ea_ with ea_ en_ ec_
                    subst ea_
                    subst ec_
                    clear en_
                    have p312 : 0 ≤ (x6_3 : Int) := of_decide_eq_true (by first | (with_reducible assumption) | assumption)
                    have q312 : x6_3 < ((rd_Ls2 l0_0 x5_2).length : Int) := of_decide_eq_true (by first | (with_reducible assumption) | assumption)
                    obtain ⟨ad312, e312, hx312_0⟩ := Kd.at_int HR311_0.out x6_3 p312 q312
                    cases e312
                    replace p312 := eq_true p312
                    replace q312 := eq_true q312
                    have p313 : 0 ≤ (x6_3 : Int) := of_decide_eq_true (by first | (with_reducible assumption) | assumption)
                    have q313 : x6_3 < (l0_0.length : Int) := of_decide_eq_true (by first | (with_reducible assumption) | assumption)
                    obtain ⟨ad313, A313_0, c313_0, e313, hx313_0, hl313_0, hi313_0⟩ := at_Ls2 HR0_0.out x6_3 p313 q313
                    obtain rfl : ad308 = ad313 := (by injection e313)
                    have HR313_0 := Aside0.mk hi313_0
                    have HC313_0 := Aside0.mk hl313_0
                    clear hi313_0 hl313_0
                    replace p313 := eq_true p313
                    replace q313 := eq_true q313
                    have p314 : 0 ≤ (x5_2 : Int) := of_decide_eq_true (by first | (with_reducible assumption) | assumption)
                    have q314 : x5_2 < ((rd_Ls2 l0_0 x6_3).length : Int) := of_decide_eq_true (by first | (with_reducible assumption) | assumption)
                    obtain ⟨ad314, e314, hx314_0⟩ := Kd.at_int HR313_0.out x5_2 p314 q314
                    cases e314
                    replace p314 := eq_true p314
                    replace q314 := eq_true q314
                    go_wp2_with (first | (go_at_call 101; (with_reducible refine (spec_l00In.calls (rd (rd_Ls2 l0_0 x5_2) x6_3) 0 1000 true _ A18.out).mono ?_); rintro e w' ⟨rfl, ⟨nd, rfl⟩⟩; (try first | exact ⟨rfl, _, World.drewN_drewN _ _ _⟩ | exact ⟨rfl, _, Eq.trans (World.drewN_drewN _ _ _) (congrArg (World.drewN _) (Nat.add_assoc _ _ _))⟩)))
                    repeat (go_quiet (first | (go_at_call 101; (with_reducible refine (spec_l00In.calls (rd (rd_Ls2 l0_0 x5_2) x6_3) 0 1000 true _ A18.out).mono ?_); rintro e w' ⟨rfl, ⟨nd, rfl⟩⟩; (try first | exact ⟨rfl, _, World.drewN_drewN _ _ _⟩ | exact ⟨rfl, _, Eq.trans (World.drewN_drewN _ _ _) (congrArg (World.drewN _) (Nat.add_assoc _ _ _))⟩))); try go_wp2_with (first | (go_at_call 101; (with_reducible refine (spec_l00In.calls (rd (rd_Ls2 l0_0 x5_2) x6_3) 0 1000 true _ A18.out).mono ?_); rintro e w' ⟨rfl, ⟨nd, rfl⟩⟩; (try first | exact ⟨rfl, _, World.drewN_drewN _ _ _⟩ | exact ⟨rfl, _, Eq.trans (World.drewN_drewN _ _ _) (congrArg (World.drewN _) (Nat.add_assoc _ _ _))⟩))))
                    go_meet
                    case rel => exact ⟨_, (true), (by first | rfl | (simp; done) | (simp [*]; done)), H', ⟨by have := HK1.out; have := HK2.out; have := HK3.out; first | omega | exact Nat.le_refl _⟩, ⟨by (with_reducible repeat first | refine b_N ?_ _ | refine b_D ?_ | refine b_A ?_ _); exact BK0.out⟩, by repeat (first | exact Drawn0.refl _ | apply Drawn0.step)⟩
                  ·rw [if_neg c21] at H
                   exact absurd H (by simp)
                 ·rw [if_neg c20] at H
                  exact absurd H (by simp)
                ·replace c19 := Bool.eq_false_iff.mpr c19
                 subst c19
                 have H1 : (spec_l10Is.j3 k3 (l0_0.length : Int) x5_2 x6_3 true l0_0) = some r := by rw [if_neg (show ¬ (false = true) by decide)] at H; exact H
                 clear H
                 have H := H1
                 clear H1
                 have H' := Aside0.mk H
                 clear H
                 have hcz26_0 : w.cell? ⟨g0, 0, none⟩ = some (.slice A0_0 l0_0.length c0_0) := (blk_cell BK0.out 0).trans rfl
                 have hfz26_0 := blk_frozen BK0.out 0
                 have p308 : 0 ≤ (x5_2 : Int) := of_decide_eq_true (by first | (with_reducible assumption) | assumption)
                 have q308 : x5_2 < (l0_0.length : Int) := of_decide_eq_true (by first | (with_reducible assumption) | assumption)
                 obtain ⟨ad308, A308_0, c308_0, e308, hx308_0, hl308_0, hi308_0⟩ := at_Ls2 HR0_0.out x5_2 p308 q308
                 cases e308
                 have HR308_0 := Aside0.mk hi308_0
                 have HC308_0 := Aside0.mk hl308_0
                 clear hi308_0 hl308_0
                 replace p308 := eq_true p308
                 replace q308 := eq_true q308
                 have p309 : 0 ≤ (x6_3 : Int) := of_decide_eq_true (by first | (with_reducible assumption) | assumption)
                 have q309 : x6_3 < ((rd_Ls2 l0_0 x5_2).length : Int) := of_decide_eq_true (by first | (with_reducible assumption) | assumption)
                 obtain ⟨ad309, e309, hx309_0⟩ := Kd.at_int HR308_0.out x6_3 p309 q309
                 cases e309
                 replace p309 := eq_true p309
                 replace q309 := eq_true q309
                 go_wp2_with (first | (go_at_call 101; (with_reducible refine (spec_l00In.calls (rd (rd_Ls2 l0_0 x5_2) x6_3) 0 1000 false _ A18.out).mono ?_); rintro e w' ⟨rfl, ⟨nd, rfl⟩⟩; (try first | exact ⟨rfl, _, World.drewN_drewN _ _ _⟩ | exact ⟨rfl, _, Eq.trans (World.drewN_drewN _ _ _) (congrArg (World.drewN _) (Nat.add_assoc _ _ _))⟩)))
                 repeat (go_quiet (first | (go_at_call 101; (with_reducible refine (spec_l00In.calls (rd (rd_Ls2 l0_0 x5_2) x6_3) 0 1000 false _ A18.out).mono ?_); rintro e w' ⟨rfl, ⟨nd, rfl⟩⟩; (try first | exact ⟨rfl, _, World.drewN_drewN _ _ _⟩ | exact ⟨rfl, _, Eq.trans (World.drewN_drewN _ _ _) (congrArg (World.drewN _) (Nat.add_assoc _ _ _))⟩))); try go_wp2_with (first | (go_at_call 101; (with_reducible refine (spec_l00In.calls (rd (rd_Ls2 l0_0 x5_2) x6_3) 0 1000 false _ A18.out).mono ?_); rintro e w' ⟨rfl, ⟨nd, rfl⟩⟩; (try first | exact ⟨rfl, _, World.drewN_drewN _ _ _⟩ | exact ⟨rfl, _, Eq.trans (World.drewN_drewN _ _ _) (congrArg (World.drewN _) (Nat.add_assoc _ _ _))⟩))))
                 go_meet
                 case rel => exact ⟨_, (true), (by first | rfl | (simp; done) | (simp [*]; done)), H', ⟨by have := HK1.out; have := HK2.out; have := HK3.out; first | omega | exact Nat.le_refl _⟩, ⟨by (with_reducible repeat first | refine b_N ?_ _ | refine b_D ?_ | refine b_A ?_ _); exact BK0.out⟩, by repeat (first | exact Drawn0.refl _ | apply Drawn0.step)⟩
               ·rw [if_neg c17] at H
                exact absurd H (by simp)
              ·rw [if_neg c16] at H
               exact absurd H (by simp)
             ·rw [if_neg c15] at H
              exact absurd H (by simp)
            ·rw [if_neg c14] at H
             exact absurd H (by simp)
           case rest =>
            clear HC13
            try clear c1
            try clear c2
            try clear p2
            try clear c3
            try clear p3
            try clear q3
            try clear hx3
            try clear c5
            try clear c5b0
            try clear c6
            try clear c6b0
            try clear p6
            try clear c7
            try clear c7b0
            try clear c8
            try clear c8b0
            try clear c8b1
            try clear c8b2
            try clear c11
            try clear c11b0
            try clear c12
            try clear c12b0
            try clear c14
            try clear c14b0
            try clear c15
            try clear c15b0
            try clear c16
            try clear c16b0
            try clear c17
            try clear c17b0
            try clear c19
            try clear c20
            try clear c20b0
            try clear c21
            try clear c21b0
            try clear c22
            try clear c22b0
            try clear c22b1
            try clear c23
            try clear c23b0
            try clear hcz10_0
            try clear hcz24_0
            try clear hcz25_0
            try clear hcz26_0
            try clear hcz4_0
            try clear hcz9_0
            try clear hfz10_0
            try clear hfz24_0
            try clear hfz25_0
            try clear hfz26_0
            try clear hfz4_0
            try clear hfz9_0
            try clear hx307_0
            try clear hx308_0
            try clear hx309_0
            try clear hx311_0
            try clear hx312_0
            try clear hx313_0
            try clear hx314_0
            try clear hx315_0
            try clear hx316_0
            try clear p2
            try clear p3
            try clear p307
            try clear p308
            try clear p309
            try clear p311
            try clear p312
            try clear p313
            try clear p314
            try clear p315
            try clear p316
            try clear p6
            try clear q3
            try clear q307
            try clear q308
            try clear q309
            try clear q311
            try clear q312
            try clear q313
            try clear q314
            try clear q315
            try clear q316
            obtain ⟨kq, x87_12, rfl, HA, HJ12, BK0, ⟨mc12, rfl⟩⟩ := hcut
            cases kq with
            | zero => exact absurd HA.out (by simp [spec_l10Is.j3])
            | succ kj12 =>
             have H := HA.out
             clear HA
             simp only [spec_l10Is.j3] at H
             by_cases c27 : x87_12 = true
             ·subst c27
              have H1 : (some false) = some r := by rw [if_pos rfl] at H; exact H
              clear H
              have H := H1
              clear H1
              obtain rfl := Option.some.inj H
              go_wp2
              repeat (go_quiet (fail); try go_wp2)
              go_ret
              exact ⟨by first | rfl | (simp; done) | (simp [*]; done), by repeat (first | exact Drawn0.refl _ | apply Drawn0.step)⟩
             ·replace c27 := Bool.eq_false_iff.mpr c27
              subst c27
              have H1 : (spec_l10Is.l2 kj12 (l0_0.length : Int) x5_2 (wrap64 (x6_3 + 1)) l0_0) = some r := by rw [if_neg (show ¬ (false = true) by decide)] at H; exact H
              clear H
              have H := H1
              clear H1
              have H' := Aside0.mk H
              clear H
              go_wp2
              repeat (go_quiet (fail); try go_wp2)
              go_roundg kj12
              case measure => have := HK1.out; have := HK2.out; have := HK3.out; have := HJ12.out; omega
              case rel => exact ⟨(wrap64 (x6_3 + 1)), (by first | rfl | (simp; done) | (simp [*]; done)), H', ⟨by have := HK1.out; have := HK2.out; have := HK3.out; have := HJ12.out; omega⟩, ⟨by (with_reducible repeat first | refine b_N ?_ _ | refine b_D ?_ | refine b_A ?_ _); exact BK0.out⟩, by repeat (first | exact Drawn0.refl _ | apply Drawn0.step)⟩
          ·rw [if_neg c12] at H
           have c12b0 : decide (x6_3 < (l0_0.length : Int)) = false := decide_eq_false c12
           clear c12
           have H' := Aside0.mk H
           clear H
           go_wp2
           repeat (go_quiet (fail); try go_wp2)
           go_roundg k3
           case measure => have := HK1.out; have := HK2.out; have := HK3.out; omega
           case rel => exact ⟨(wrap64 (x5_2 + 1)), (by first | rfl | (simp; done) | (simp [*]; done)), H', ⟨by have := HK1.out; have := HK2.out; have := HK3.out; omega⟩, ⟨by (with_reducible repeat first | refine b_N ?_ _ | refine b_D ?_ | refine b_A ?_ _); exact BK0.out⟩, by repeat (first | exact Drawn0.refl _ | apply Drawn0.step)⟩
       ·rw [if_neg c11] at H
        have c11b0 : decide (x5_2 < (l0_0.length : Int)) = false := decide_eq_false c11
        clear c11
        obtain rfl := Option.some.inj H
        go_wp2
        repeat (go_quiet (fail); try go_wp2)
        go_ret
        exact ⟨by first | rfl | (simp; done) | (simp [*]; done), by repeat (first | exact Drawn0.refl _ | apply Drawn0.step)⟩
 ·replace c3 := Bool.eq_false_iff.mpr c3
  subst c3
  have H1 : (some false) = some r := by rw [if_neg (show ¬ (false = true) by decide)] at H; exact H
  clear H
  have H := H1
  clear H1
  obtain rfl := Option.some.inj H
  have hcz28_0 : w.cell? ⟨g0, 0, none⟩ = some (.slice A0_0 l0_0.length c0_0) := (blk_cell BK0.out 0).trans rfl
  have hfz28_0 := blk_frozen BK0.out 0
  go_enter Try.func74, Try.ntmps74
  go_wp2_with (first | (go_at_call 101; (with_reducible refine (spec_l00In.calls (l0_0.length : Int) 1 9 false _ A2.out).mono ?_); rintro e w' ⟨rfl, ⟨nd, rfl⟩⟩; (try first | exact ⟨rfl, _, World.drewN_drewN _ _ _⟩ | exact ⟨rfl, _, Eq.trans (World.drewN_drewN _ _ _) (congrArg (World.drewN _) (Nat.add_assoc _ _ _))⟩)))
  repeat (go_quiet (first | (go_at_call 101; (with_reducible refine (spec_l00In.calls (l0_0.length : Int) 1 9 false _ A2.out).mono ?_); rintro e w' ⟨rfl, ⟨nd, rfl⟩⟩; (try first | exact ⟨rfl, _, World.drewN_drewN _ _ _⟩ | exact ⟨rfl, _, Eq.trans (World.drewN_drewN _ _ _) (congrArg (World.drewN _) (Nat.add_assoc _ _ _))⟩))); try go_wp2_with (first | (go_at_call 101; (with_reducible refine (spec_l00In.calls (l0_0.length : Int) 1 9 false _ A2.out).mono ?_); rintro e w' ⟨rfl, ⟨nd, rfl⟩⟩; (try first | exact ⟨rfl, _, World.drewN_drewN _ _ _⟩ | exact ⟨rfl, _, Eq.trans (World.drewN_drewN _ _ _) (congrArg (World.drewN _) (Nat.add_assoc _ _ _))⟩))))
  go_ret
  exact ⟨by first | rfl | (simp; done) | (simp [*]; done), by repeat (first | exact Drawn0.refl _ | apply Drawn0.step)⟩
end Go.Proofs.Ytaapbnhggfmlpaa.P
end
section
namespace Go.Proofs.Ytaapbnhggfmlpaa.P
open Go.RowKit Go.Proofs.YtaapbnhggfmlpaaW.PrintWords Go.Proofs.YtaapbnhggfmlpaaW.PrintLast Go.Proofs.YtaapbnhggfmlpaaW.PrintMore
attribute [local go_sem] max2_int min2_int max_two min_two max_three min_three max_four min_four   -- for this text's walks alone
set_option linter.unusedVariables false
set_option linter.unusedSimpArgs false
def spec_l00Has.l0 : Nat → List Int → Int → Int → Option (Bool)
 | 0, _, _, _ => none
 | k + 1, x0, x1, x5 => if x5 < (x0.length : Int) then (if 0 ≤ x5 then (if (rd x0 x5) = x1 then (some true) else (spec_l00Has.l0 k x0 x1 (wrap64 (x5 + 1)))) else (none)) else (some false)
def spec_l00Has.f (k : Nat) (l0 : List Int) (a1 : Int) : Option (Bool) := spec_l00Has.l0 k l0 a1 0
set_option maxHeartbeats 4000000 in
set_option maxRecDepth 100000 in
theorem spec_l00Has.calls (k : Nat) (A0 : Option Addr) (c0 : Nat) (l0 : List Int) (a1 : Int) (r : Bool) (w : World) (hr0 : Kd.C (Kd.int .i64) w A0 l0.length l0) (hc0 : l0.length ≤ c0) (h : spec_l00Has.f k l0 a1 = some r) :
  Calls Try.prog 75 #[.slice A0 l0.length c0, .int .i64 a1] w fun e w' => e = .returned (.bool r) ∧ Drawn0 w w' := by
 have HR0 := Aside0.mk hr0
 have HC0 := Aside0.mk hc0
 clear hr0 hc0
 have H : (spec_l00Has.l0 k l0 a1 0) = some r := h
 clear h
 have H' := Aside0.mk H
 clear H
 go_enter Try.func75, Try.ntmps75
 go_wp2
 go_loopg [5] k (fun kq v5 w' => ∃ (x5_1 : Int), v5 = .int .i64 x5_1 ∧ Aside0 (spec_l00Has.l0 kq l0 a1 x5_1 = some r) ∧ Aside0 (kq ≤ k) ∧ Drawn0 w w')
 case atStart => exact ⟨(0), (by first | rfl | (simp; done) | (simp [*]; done)), H', ⟨Nat.le_refl _⟩, by repeat (first | exact Drawn0.refl _ | apply Drawn0.step)⟩
 case round =>
  clear H'
  try clear p2
  obtain ⟨x5_1, rfl, HA, HK1, ⟨m1, rfl⟩⟩ := hrel
  cases gk with
  | zero => exact absurd HA.out (by simp [spec_l00Has.l0])
  | succ k1 =>
   have H := HA.out
   clear HA
   simp only [spec_l00Has.l0] at H
   by_cases c3 : x5_1 < (l0.length : Int)
   ·rw [if_pos c3] at H
    have c3b0 : decide (x5_1 < (l0.length : Int)) = true := decide_eq_true c3
    clear c3
    by_cases c4 : 0 ≤ x5_1
    ·rw [if_pos c4] at H
     have c4b0 : decide (0 ≤ x5_1) = true := decide_eq_true c4
     clear c4
     by_cases c5 : (rd l0 x5_1) = a1
     ·rw [if_pos c5] at H
      have c5b0 : ((rd l0 x5_1) == a1) = true := beq_iff_eq.mpr c5
      have c5b1 : ((rd l0 x5_1) != a1) = false := bne_eq_false_iff_eq.mpr c5
      clear c5
      obtain rfl := Option.some.inj H
      have p317 : 0 ≤ (x5_1 : Int) := of_decide_eq_true (by first | (with_reducible assumption) | assumption)
      have q317 : x5_1 < (l0.length : Int) := of_decide_eq_true (by first | (with_reducible assumption) | assumption)
      obtain ⟨ad317, e317, hx317_0⟩ := Kd.at_int HR0.out x5_1 p317 q317
      cases e317
      replace p317 := eq_true p317
      replace q317 := eq_true q317
      go_wp2
      go_ret
      exact ⟨by first | rfl | (simp; done) | (simp [*]; done), by repeat (first | exact Drawn0.refl _ | apply Drawn0.step)⟩
     ·rw [if_neg c5] at H
      have c5b0 : ((rd l0 x5_1) == a1) = false := beq_eq_false_iff_ne.mpr c5
      have c5b1 : ((rd l0 x5_1) != a1) = true := bne_iff_ne.mpr c5
      have H' := Aside0.mk H
      clear H
      have p317 : 0 ≤ (x5_1 : Int) := of_decide_eq_true (by first | (with_reducible assumption) | assumption)
      have q317 : x5_1 < (l0.length : Int) := of_decide_eq_true (by first | (with_reducible assumption) | assumption)
      obtain ⟨ad317, e317, hx317_0⟩ := Kd.at_int HR0.out x5_1 p317 q317
      cases e317
      replace p317 := eq_true p317
      replace q317 := eq_true q317
      go_wp2
      go_roundg k1
      case measure => have := HK1.out; omega
      case rel => exact ⟨(wrap64 (x5_1 + 1)), (by first | rfl | (simp; done) | (simp [*]; done)), H', ⟨by have := HK1.out; omega⟩, by repeat (first | exact Drawn0.refl _ | apply Drawn0.step)⟩
    ·rw [if_neg c4] at H
     exact absurd H (by simp)
   ·rw [if_neg c3] at H
    have c3b0 : decide (x5_1 < (l0.length : Int)) = false := decide_eq_false c3
    clear c3
    obtain rfl := Option.some.inj H
    go_wp2
    go_ret
    exact ⟨by first | rfl | (simp; done) | (simp [*]; done), by repeat (first | exact Drawn0.refl _ | apply Drawn0.step)⟩
end Go.Proofs.Ytaapbnhggfmlpaa.P
end
section
namespace Go.Proofs.Ytaapbnhggfmlpaa.P
open Go.RowKit Go.Proofs.YtaapbnhggfmlpaaW.PrintWords Go.Proofs.YtaapbnhggfmlpaaW.PrintLast Go.Proofs.YtaapbnhggfmlpaaW.PrintMore
attribute [local go_sem] max2_int min2_int max_two min_two max_three min_three max_four min_four   -- for this text's walks alone
set_option linter.unusedVariables false
set_option linter.unusedSimpArgs false
def spec_l00Min.f (a0 : Int) (a1 : Int) : Option (Int) := if a0 < a1 then (some a0) else (some a1)
set_option maxHeartbeats 4000000 in
set_option maxRecDepth 100000 in
theorem spec_l00Min.calls (a0 : Int) (a1 : Int) (r : Int) (w : World) (h : spec_l00Min.f a0 a1 = some r) :
  Calls Try.prog 133 #[.int .i64 a0, .int .i64 a1] w fun e w' => e = .returned (.int .i64 r) ∧ Drawn0 w w' := by
 have H : (if a0 < a1 then (some a0) else (some a1)) = some r := h
 clear h
 by_cases c3 : a0 < a1
 ·rw [if_pos c3] at H
  have c3b0 : decide (a0 < a1) = true := decide_eq_true c3
  clear c3
  obtain rfl := Option.some.inj H
  go_enter Try.func133, Try.ntmps133
  go_wp2
  go_ret
  exact ⟨by first | rfl | (simp; done) | (simp [*]; done), by repeat (first | exact Drawn0.refl _ | apply Drawn0.step)⟩
 ·rw [if_neg c3] at H
  have c3b0 : decide (a0 < a1) = false := decide_eq_false c3
  clear c3
  obtain rfl := Option.some.inj H
  go_enter Try.func133, Try.ntmps133
  go_wp2
  go_ret
  exact ⟨by first | rfl | (simp; done) | (simp [*]; done), by repeat (first | exact Drawn0.refl _ | apply Drawn0.step)⟩
end Go.Proofs.Ytaapbnhggfmlpaa.P
end
