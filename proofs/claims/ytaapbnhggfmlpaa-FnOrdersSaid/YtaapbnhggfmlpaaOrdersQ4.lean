/- Lemmas and contracts of functions, part 4 of 7, for this law: The law FnOrders holds for every input: the best order has its coupling with the best shields, no drawn order has a lesser one with as many nor comes before it with the same, and without shields it is at least the tree bound. -/
import Derived.RowKit
import Derived.Test.YtaapbnhggfmlpaaOrdersQ1
import Derived.Test.YtaapbnhggfmlpaaOrdersQ3
import Derived.Test.YtaapbnhggfmlpaaProg
import Derived.DeepKeys4
import Derived.Maps.OwnSet
import Derived.Maps.RangeWalk
import Derived.Maps.Ext
import Derived.WalkKit
import Derived.KernelRfl
import Derived.Deep.Draws
import Derived.Laws.BitsLemmas
import Derived.IntWalk
import Derived.Below
import Derived.OwnWalk
import Derived.StillTailTactics
import Derived.Outline
import Derived.Handy
section
namespace Go.Proofs.Ytaapbnhggfmlpaa.A
open Go.RowKit
def tbIn (R : List Int) (i : Int) : List Int → Int → Int → Int → Int × Int
  | [], _, b, a => (b, a)
  | w :: ws, k, b, a => if i ∈ R ∧ k ∉ R ∧ (b < 0 ∨ w < b) then tbIn R i ws (k + 1) w k else tbIn R i ws (k + 1) b a
def tbOut (R : List Int) : List (List Int) → Int → Int → Int → Int × Int
  | [], _, b, a => (b, a)
  | row :: rs, i, b, a => tbOut R rs (i + 1) (tbIn R i row 0 b a).1 (tbIn R i row 0 b a).2
def tbRun (l : List (List Int)) : Nat → List Int → Int → Option Int
  | 0, _, _ => none
  | f + 1, R, s => if R.length < l.length then (if (tbOut R l 0 (-1) 0).2 ∈ R ∨ (Lit.int .i64 (tbOut R l 0 (-1) 0).2).wf = false then none else tbRun l f ((tbOut R l 0 (-1) 0).2 :: R) (wrap64 (s + (tbOut R l 0 (-1) 0).1))) else some s
theorem tbIn_drop (R : List Int) (i : Int) (row : List Int) (k : Nat) (b a : Int) (h : k < row.length) :
    tbIn R i (row.drop k) k b a = if i ∈ R ∧ (k : Int) ∉ R ∧ (b < 0 ∨ row.getD k 0 < b) then tbIn R i (row.drop (k + 1)) (k + 1) (row.getD k 0) k else tbIn R i (row.drop (k + 1)) (k + 1) b a := by
  rw [List.drop_eq_getElem_cons h]
  simp only [tbIn, List.getD_eq_getElem?_getD, List.getElem?_eq_getElem h, Option.getD_some]
theorem tbOut_drop (R : List Int) (l : List (List Int)) (i : Nat) (b a : Int) (h : i < l.length) :
    tbOut R (l.drop i) i b a = tbOut R (l.drop (i + 1)) (i + 1) (tbIn R i (l.getD i []) 0 b a).1 (tbIn R i (l.getD i []) 0 b a).2 := by
  rw [List.drop_eq_getElem_cons h]
  simp only [tbOut, List.getD_eq_getElem?_getD, List.getElem?_eq_getElem h, Option.getD_some]
end Go.Proofs.Ytaapbnhggfmlpaa.A
end
section
namespace Go.Proofs.Ytaapbnhggfmlpaa.P
open Go.RowKit Go.Proofs.YtaapbnhggfmlpaaW.PrintWords Go.Proofs.YtaapbnhggfmlpaaW.PrintLast Go.Proofs.YtaapbnhggfmlpaaW.PrintMore
open Go.Proofs.Ytaapbnhggfmlpaa.M Go.Proofs.Ytaapbnhggfmlpaa.A
theorem bmap96 : BMap Try.prog 96 3 4 .i64 := ⟨Try.underlying96, Try.underlying3, Try.underlying4, fun w => by kernel_rfl⟩
def impl_TreeBound.f (l0_0 : List (List Int)) : Option (Int × Bool) :=
  (impl_ValidBundle.f 300 l0_0).bind fun v => if v = true then (tbRun l0_0 12 [0] 0).bind fun s => some (s, true) else some (0, false)
set_option maxHeartbeats 2000000 in
set_option maxRecDepth 100000 in
theorem impl_TreeBound.calls (A0_0 : Option Addr) (c0_0 : Nat) (l0_0 : List (List Int)) (r1 : Int) (r2 : Bool) (w : World) (hr0_0 : Kd.C (Kd.slice 2 (Kd.int .i64)) w A0_0 l0_0.length l0_0) (hc0_0 : l0_0.length ≤ c0_0) (h : impl_TreeBound.f l0_0 = some (r1, r2)) :
    Calls Try.prog 27 #[.agg #[.slice A0_0 l0_0.length c0_0]] w fun e w' => e = .returned (.tuple #[.int .i64 r1, .bool r2]) ∧ Below w.heap.size w w' := by
  obtain ⟨v, hv0, h⟩ := Option.bind_eq_some_iff.mp h
  have hv := Aside0.mk hv0
  clear hv0
  have HR := Aside0.mk hr0_0
  have HC := Aside0.mk hc0_0
  clear hr0_0 hc0_0
  have hu44 := Try.underlying44
  have HB := Aside0.mk (Below.refl w.heap.size w)
  cases v with
  | false =>
    simp only [Bool.false_eq_true, if_false, Option.some.injEq, Prod.mk.injEq] at h
    obtain ⟨rfl, rfl⟩ := h
    go_enter Try.func27, Try.ntmps27
    go_wp2_with (first
      | ((with_reducible refine gate_dst (N := 1) rfl ?_); refine box_event ?hg (N := 1) ?hd (cs := #[.slice A0_0 l0_0.length c0_0]) (t := 44) ?hr ?_; (case hd => rfl); (case hg => rfl); (case hr => first | (go_simp; done) | (go_simp; rfl)); intro gb hg w2 hbox hb; have n1_ := Aside0.mk (below_step HB.out hb); have n2_ := Aside0.mk hbox; clear HB hb hbox hg; have HB := n1_; have BK := n2_; clear n1_ n2_; have hcz := (blk_cell BK.out 0).trans rfl)
      | (go_at_call 54; (with_reducible refine (impl_ValidBundle.calls 300 _ _ l0_0 false _ ?s1 ?s2 hv.out).mono ?_); (case s1 => exact Kd.C_below HR.out HB.out); (case s2 => exact HC.out); rintro e w3 ⟨rfl, hb⟩; have n1_ := Aside0.mk (below_step HB.out hb); clear HB hb; have HB := n1_; clear n1_))
    go_ret2
    exact ⟨rfl, HB.out⟩
  | true =>
    simp only [if_true] at h
    obtain ⟨s, hs0, h⟩ := Option.bind_eq_some_iff.mp h
    have hs := Aside0.mk hs0
    clear hs0
    simp only [Option.some.injEq, Prod.mk.injEq] at h
    obtain ⟨rfl, rfl⟩ := h
    go_enter Try.func27, Try.ntmps27
    go_wp2_with (first
      | ((with_reducible refine gate_dst (N := 1) rfl ?_); refine box_event ?hg (N := 1) ?hd (cs := #[.slice A0_0 l0_0.length c0_0]) (t := 44) ?hr ?_; (case hd => rfl); (case hg => rfl); (case hr => first | (go_simp; done) | (go_simp; rfl)); intro gb hg w2 hbox hb; have n1_ := Aside0.mk (below_step HB.out hb); have n2_ := Aside0.mk hbox; clear HB hb hbox hg; have HB := n1_; have BK := n2_; clear n1_ n2_; have hcz := (blk_cell BK.out 0).trans rfl)
      | (go_at_call 54; (with_reducible refine (impl_ValidBundle.calls 300 _ _ l0_0 true _ ?s1t ?s2t hv.out).mono ?_); (case s1t => exact Kd.C_below HR.out HB.out); (case s2t => exact HC.out); rintro e w3 ⟨rfl, hb⟩; have n1_ := Aside0.mk (below_step HB.out hb); have n2_ := Aside0.mk (blk_below BK.out hb); clear HB hb BK; have HB := n1_; have BK := n2_; clear n1_ n2_)
      | (refine wp_make _ rfl 96 rfl ?_; intro bm w4 hbm hraw hM0 hb; have hM := Aside0.mk (hM0 Try.prog 3 4 .i64); have hne := Aside0.mk (by rw [hbm]; exact Nat.ne_of_lt (blk_lt BK.out) : gb ≠ bm); have n2_ := Aside0.mk (blk_below BK.out hb); have hge := Aside0.mk (by rw [hbm]; exact HB.out.size : w.heap.size ≤ bm); have n1_ := Aside0.mk (below_step HB.out hb); clear HB hb BK hM0 hraw hbm; have HB := n1_; have BK := n2_; clear n1_ n2_)
      | (refine wp_put _ rfl _ _ _ 96 (.inr rfl) bmap96 bm 0 [] rfl hM.out (by decide) 0 rfl rfl (by decide) (by simp) ?_; intro w5 hM1 hgr; have n1_ := Aside0.mk (HB.out.grown hgr HB.out.size (fun k e => by cases e; exact hge.out)); have n2_ := Aside0.mk (blk_grown BK.out hgr (fun e => hne.out (Option.some.inj e))); have n3_ := Aside0.mk hM1; clear HB BK hM hM1 hgr; have HB := n1_; have BK := n2_; have hM := n3_; clear n1_ n2_ n3_))
    go_loopg [5] 12 (fun kq v5 w' => ∃ (R : List Int) (s1 : Int), v5 = .int .i64 s1 ∧ Aside0 (tbRun l0_0 kq R s1 = some s) ∧ Aside0 (kq ≤ 12) ∧ Aside0 (R.length + kq = 13) ∧ Aside0 (BM Try.prog 3 4 .i64 w' bm R.length R) ∧ Aside0 (Below w.heap.size w w') ∧ Aside0 (w'.heap[gb]? = some (.cells #[.slice A0_0 l0_0.length c0_0] 44 (0, 0))))
    case atStart => exact ⟨[0], 0, rfl, hs, ⟨by omega⟩, ⟨rfl⟩, hM, HB, BK⟩
    case round =>
      clear hM HB BK hs
      obtain ⟨R, s1, rfl, hs, hk12, hRk, hM, HB, BK⟩ := hrel
      cases gk with
      | zero => exact absurd hs.out (by simp [tbRun])
      | succ kk =>
        have H := hs.out
        clear hs
        simp only [tbRun] at H
        by_cases c1 : R.length < l0_0.length
        · rw [if_pos c1] at H
          have hcz := (blk_cell BK.out 0).trans rfl
          have c1b : decide (R.length < l0_0.length) = true := decide_eq_true c1
          by_cases c2 : (tbOut R l0_0 0 (-1) 0).2 ∈ R ∨ (Lit.int .i64 (tbOut R l0_0 0 (-1) 0).2).wf = false
          · rw [if_pos c2] at H; exact absurd H (by simp)
          · rw [if_neg c2] at H
            have H' := Aside0.mk H
            have c2' := Aside0.mk c2
            clear H c2
            go_wp2_with (first | (refine wp_len _ rfl _ 96 rfl bmap96 bm R.length R rfl hM.out ?_))
            have HRw := Aside0.mk (Kd.C_below HR.out HB.out)
            have hlm0 := Kd.C_max HRw.out
            go_loop [6, 7, 25] (fun v6 v7 v25 => ∃ (b a : Int) (i : Nat), v6 = .int .i64 b ∧ v7 = .int .i64 a ∧ v25 = .int .i64 i ∧ i ≤ l0_0.length ∧ Aside0 (tbOut R (l0_0.drop i) i b a = tbOut R l0_0 0 (-1) 0)) (fun _ _ v => l0_0.length - (intOf v).toNat)
            case atStart => exact ⟨-1, 0, 0, rfl, rfl, rfl, Nat.zero_le _, ⟨rfl⟩⟩
            case round =>
              obtain ⟨b, a, i, rfl, rfl, rfl, hi, hT⟩ := hrel
              by_cases ci : i < l0_0.length
              · have p1 : 0 ≤ (i : Int) := by omega
                have q1 : (i : Int) < (l0_0.length : Int) := by omega
                obtain ⟨ad, A1, c1', e1, hx, hl1, hi1⟩ := at_Ls2 HRw.out i p1 q1
                cases e1
                have hx' : wr.cell? (ad.add i) = some (.slice A1 (rd_Ls2 l0_0 i).length c1') := hx
                have HI := Aside0.mk hi1
                clear hi1 hx
                have hlm := Kd.C_max HI.out
                have hR1 := Aside0.mk (hM.out.look bmap96 (a := (i : Int)) (WalkArith.wf_i64 (by have := Kd.C_max HRw.out; omega)))
                go_wp2
                go_loop [6, 7, 34] (fun v6 v7 v34 => ∃ (b1 a1 : Int) (k : Nat), v6 = .int .i64 b1 ∧ v7 = .int .i64 a1 ∧ v34 = .int .i64 k ∧ k ≤ (rd_Ls2 l0_0 i).length ∧ Aside0 (tbIn R i ((rd_Ls2 l0_0 i).drop k) k b1 a1 = tbIn R i (rd_Ls2 l0_0 i) 0 b a)) (fun _ _ v => (rd_Ls2 l0_0 i).length - (intOf v).toNat)
                case atStart => exact ⟨b, a, 0, rfl, rfl, rfl, Nat.zero_le _, ⟨rfl⟩⟩
                case round =>
                  obtain ⟨b1, a1, k, rfl, rfl, rfl, hk, hU⟩ := hrel
                  by_cases ck : k < (rd_Ls2 l0_0 i).length
                  · have pk : 0 ≤ (k : Int) := by omega
                    have qk : (k : Int) < ((rd_Ls2 l0_0 i).length : Int) := by omega
                    obtain ⟨ad2, e2, hx2⟩ := Kd.at_int HI.out k pk qk
                    cases e2
                    have hx2' : wr.cell? (ad2.add k) = some (.int .i64 (rd (rd_Ls2 l0_0 i) k)) := hx2
                    clear hx2
                    have hR2 := Aside0.mk (hM.out.look bmap96 (a := (k : Int)) (WalkArith.wf_i64 (by omega)))
                    have hS := Aside0.mk (tbIn_drop R i (rd_Ls2 l0_0 i) k b1 a1 ck)
                    obtain ⟨x, hx⟩ : ∃ x, x = rd (rd_Ls2 l0_0 i) k := ⟨_, rfl⟩
                    rw [← hx] at hx2'
                    replace hx := Aside0.mk hx
                    have hR1' := hR1.out
                    have hR2' := hR2.out
                    rw [show (rd_Ls2 l0_0 i).getD k 0 = x from hx.out.symm, hU.out] at hS
                    by_cases m1 : (i : Int) ∈ R
                    · simp only [m1, decide_true] at hR1'
                      by_cases m2 : (k : Int) ∈ R
                      · simp only [m2, decide_true] at hR2'
                        have hS' := Aside0.mk (hS.out.trans (if_neg (fun h => h.2.1 m2)))
                        go_wp2
                        go_round
                        case rel => exact ⟨b1, a1, k + 1, rfl, rfl, by go_num, by omega, ⟨by push_cast; exact hS'.out.symm⟩⟩
                        case measure => simp [intOf]; omega
                      · simp only [m2, decide_false] at hR2'
                        by_cases m3 : b1 < 0
                        · have hS' := Aside0.mk (hS.out.trans (if_pos ⟨m1, m2, .inl m3⟩))
                          go_wp2
                          go_round
                          case rel => exact ⟨x, k, k + 1, rfl, rfl, by go_num, by omega, ⟨by push_cast; exact hS'.out.symm⟩⟩
                          case measure => simp [intOf]; omega
                        · by_cases m4 : x < b1
                          · have hS' := Aside0.mk (hS.out.trans (if_pos ⟨m1, m2, .inr m4⟩))
                            go_wp2
                            go_round
                            case rel => exact ⟨x, k, k + 1, rfl, rfl, by go_num, by omega, ⟨by push_cast; exact hS'.out.symm⟩⟩
                            case measure => simp [intOf]; omega
                          · have hS' := Aside0.mk (hS.out.trans (if_neg (fun h => h.2.2.elim m3 m4)))
                            go_wp2
                            go_round
                            case rel => exact ⟨b1, a1, k + 1, rfl, rfl, by go_num, by omega, ⟨by push_cast; exact hS'.out.symm⟩⟩
                            case measure => simp [intOf]; omega
                    · simp only [m1, decide_false] at hR1'
                      have hS' := Aside0.mk (hS.out.trans (if_neg (fun h => m1 h.1)))
                      go_wp2
                      go_round
                      case rel => exact ⟨b1, a1, k + 1, rfl, rfl, by go_num, by omega, ⟨by push_cast; exact hS'.out.symm⟩⟩
                      case measure => simp [intOf]; omega
                  · have : k = (rd_Ls2 l0_0 i).length := by omega
                    subst this
                    have hE := hU.out
                    rw [List.drop_length] at hE
                    simp only [tbIn] at hE
                    have hE1 := Aside0.mk hE
                    have hT1 := Aside0.mk ((tbOut_drop R l0_0 i b a ci).symm.trans hT.out)
                    clear hE
                    go_wp2
                    go_round
                    case rel => exact ⟨b1, a1, i + 1, rfl, rfl, by go_num, by omega, ⟨by have e := hT1.out; rw [show l0_0.getD i [] = rd_Ls2 l0_0 i from rfl, ← hE1.out] at e; push_cast; exact e⟩⟩
                    case measure => simp [intOf]; omega
              · have : i = l0_0.length := by omega
                subst this
                have hE := hT.out
                rw [List.drop_length] at hE
                simp only [tbOut] at hE
                rw [← hE] at c2' H'
                have c3 := Aside0.mk (not_or.mp c2'.out)
                have c4 := Aside0.mk (by have := c3.out.2; simpa using this : (Lit.int .i64 a).wf = true)
                clear hE hT c2'
                go_wp2_with (first | (refine wp_put _ rfl _ _ _ 96 (.inl rfl) bmap96 bm R.length R rfl hM.out (by have := hRk.out; unfold maxLen; omega) a rfl rfl c4.out c3.out.1 ?_; intro w6 hM1 hgr; have n1_ := Aside0.mk (HB.out.grown hgr HB.out.size (fun k e => by cases e; exact hge.out)); have n2_ := Aside0.mk (blk_grown BK.out hgr (fun e => hne.out (Option.some.inj e))); have n3_ := Aside0.mk hM1; clear HB BK hM hM1 hgr; have HB := n1_; have BK := n2_; have hM := n3_; clear n1_ n2_ n3_))
                go_roundg kk
                case measure => omega
                case rel => exact ⟨a :: R, _, rfl, H', ⟨by have := hk12.out; omega⟩, ⟨by have := hRk.out; simp; omega⟩, hM, HB, BK⟩
        · rw [if_neg c1] at H
          obtain rfl := Option.some.inj H
          have hcz := (blk_cell BK.out 0).trans rfl
          have c1b : decide (R.length < l0_0.length) = false := decide_eq_false c1
          go_wp2_with (first | (refine wp_len _ rfl _ 96 rfl bmap96 bm R.length R rfl hM.out ?_))
          go_ret2
          exact ⟨rfl, HB.out⟩
end Go.Proofs.Ytaapbnhggfmlpaa.P
end
section
set_option linter.unusedVariables false
namespace Go.Proofs.Ytaapbnhggfmlpaa.M
open Go.Maps Go.RowKit

structure T3 where
  d : Int
  l : Int
  s : Int
deriving DecidableEq
def T3.ok (t : T3) : Prop := (Lit.int .i64 t.d).wf = true ∧ (Lit.int .i64 t.l).wf = true ∧ (Lit.int .i64 t.s).wf = true
abbrev T3.v (t : T3) : Value := .agg #[.int .i64 t.d, .int .i64 t.l, .int .i64 t.s]

theorem laidOut_ : laidOutB Try.prog = true := by kernel_rfl
theorem law150 : Keyed Try.prog 150 :=
  Keyed.of_law (deep_law_laid laidOut_ (m := Try.prog.types.size + 1) (of_decide_eq_true (by kernel_rfl)) (of_decide_eq_true (by kernel_rfl)) (by kernel_rfl) (by kernel_rfl))
theorem kt150 : Try.prog.keyType 150 = true := by kernel_rfl
def tk (t : T3) : Lit := .string (keyBytes [.int .i64 t.d, .int .i64 t.l, .int .i64 t.s])
theorem key_of (t : T3) (h : t.ok) : keyOf Try.prog 150 t.v = some (tk t) := by
  obtain ⟨h1, h2, h3⟩ := h
  have hs : Try.prog.types.size = Try.prog.types.size - 1 + 1 := by kernel_rfl
  have e3 : Try.prog.underlying 3 = some (.int .i64) := Try.underlying3
  have k3 : ∀ (m : Nat) (x : Int), (Lit.int .i64 x).wf = true → Try.prog.keyLits (m + 1) 3 [.int .i64 x] = some [.int .i64 x] := by
    intro m x hx
    simp only [Program.keyLits, e3]
    rw [if_pos ⟨trivial, hx⟩]
  have hf : (t.v).formed Try.prog 150 = true := by
    simp only [Value.formed, Try.underlying150]
    kernel_rfl
  have c3 : Try.prog.cellsOf 3 = 1 := by kernel_rfl
  have c150 : Try.prog.cellsOf 150 = 3 := by kernel_rfl
  have kl : ∀ m, Try.prog.keyLits (m + 2) 150 [.int .i64 t.d, .int .i64 t.l, .int .i64 t.s] = some [.int .i64 t.d, .int .i64 t.l, .int .i64 t.s] := by
    intro m
    conv => lhs; unfold Program.keyLits
    simp only [Try.underlying150]
    rw [if_pos ⟨by rw [c150]; rfl, by kernel_rfl⟩]
    simp [c3, k3 m _ h1, k3 m _ h2, k3 m _ h3]
  unfold keyOf
  simp only [Try.underlying150, kt150, hf, Bool.and_self, if_true]
  rw [hs, show t.v.cells.toList = [.int .i64 t.d, .int .i64 t.l, .int .i64 t.s] from rfl, kl]
  rfl
theorem tk_inj {t u : T3} (ht : t.ok) (hu : u.ok) (h : tk t = tk u) : t = u := by
  have e : t.v = u.v := law150.inj (key_of t ht) (by rw [h]; exact key_of u hu)
  cases t; cases u
  simp at e
  simp [e]
theorem zero2 (w : World) : (zeroValue 2).run Try.prog w = .ok (.int .i64 0) w := by kernel_rfl

def TM (w : World) (b n : Nat) (f : T3 → Option Int) : Prop :=
  ∃ D : DataW Unit, w.ownsMap Try.prog 150 (plainElem Try.prog 2) b n D ∧ ∀ t, t.ok → Maps.has D (tk t) = (f t).isSome ∧ D.atKey (tk t) (.lit (.int .i64 0)) = .lit (.int .i64 ((f t).getD 0))

section
variable {w : World} {b n : Nat} {f : T3 → Option Int}
theorem TM.made (w : World) : TM (w.alloc (.map #[] 0)) w.heap.size 0 (fun _ => none) :=
  ⟨.map [], World.ownsMap_made w Try.prog 150 _, fun a _ => ⟨by simp [Maps.has], by simp [DataW.atKey]⟩⟩
theorem TM.kept {w' : World} {row : Option Nat} (h : TM w b n f) (hg : w.grownBy w' row) (hne : some b ≠ row) : TM w' b n f := by
  obtain ⟨D, ho, r⟩ := h
  exact ⟨D, ho.kept hg hne, r⟩
theorem TM.lt (h : TM w b n f) : b < w.heap.size := by
  obtain ⟨D, ho, r⟩ := h
  exact ho.lt
theorem TM.drew (h : TM w b n f) : TM w.drew b n f := h
theorem TM.drewN (h : TM w b n f) (m : Nat) : TM (w.drewN m) b n f := h
theorem TM.heap {w' : World} (h : TM w b n f) (he : w'.heap[b]? = w.heap[b]?) : TM w' b n f := by
  obtain ⟨D, ⟨es, clock, hb, r1⟩, r⟩ := h
  exact ⟨D, ⟨es, clock, he.trans hb, r1⟩, r⟩

theorem TM.look (h : TM w b n f) {t : T3} (ht : t.ok) :
    (Instr.lookup 111 (.map (some b)) t.v true).run Try.prog w = .ok (.tuple #[.int .i64 ((f t).getD 0), .bool (f t).isSome]) w := by
  obtain ⟨D, ho, hat⟩ := h
  obtain ⟨v, ps, hrun, hv⟩ := ho.look_ok law150 Try.underlying111 (zero2 w) (plainElem_int Try.underlying2 (by decide)) (key_of t ht)
  obtain ⟨c, rfl, hc, _⟩ := plainElem_int_inv Try.underlying2 hv
  rw [hrun, (hat t ht).1]
  have e := congrArg Prod.fst hc
  simp only at e
  rw [(hat t ht).2] at e
  rw [(Lit.int.inj (DataW.lit.inj e)).2]

theorem tk_is (t : T3) : WideAt.IsKeyLit (tk t) := trivial
theorem TM.put (h : TM w b n f) (hn : n < maxLen) {t : T3} (ht : t.ok) {x : Int} (hx : (Lit.int .i64 x).wf = true) :
    ∃ w', (Instr.mapUpdate 111 (.map (some b)) t.v (.int .i64 x)).run Try.prog w = .ok () w' ∧ TM w' b (n + 1) (fun u => if u = t then some x else f u) ∧ w.mapTurned w' b := by
  obtain ⟨D, ho, hat⟩ := h
  obtain ⟨w', hrun, h1, h2⟩ := ho.store law150 Try.underlying111 hn (key_of t ht) (plainElem_int Try.underlying2 hx)
  have hT := ho.tidy law150
  refine ⟨w', hrun, ⟨_, h1, fun u hu => ?_⟩, h2⟩
  by_cases e : u = t
  · subst e
    exact ⟨by rw [has_put_same hT.isMap (tk_is _)]; simp, by rw [atKey_put_same hT.isMap (tk_is _)]; simp⟩
  · have ne : tk u ≠ tk t := fun e' => e (tk_inj hu ht e')
    exact ⟨by rw [has_put_other ne, (hat u hu).1]; simp [e], by rw [atKey_put_other ne, (hat u hu).2]; simp [e]⟩
end

section
variable (w : World) {ops : Array Oper} {rest : List Oper} {o : Oper} {a : Act} {Q : Exit → Act → World → Prop}
theorem wp_tput (hg : o.guard = none) (m x v : Operand) (hop : o.op = Op.mapUpdate 111 m x v ∨ o.op = Op.insert 111 m x v) (b n : Nat) (f : T3 → Option Int)
    (hm : a.eval m = .map (some b)) (h : TM w b n f) (hn : n < maxLen) (t : T3) (y : Int) (hx : a.eval x = t.v) (hv : a.eval v = .int .i64 y) (ht : t.ok) (hy : (Lit.int .i64 y).wf = true)
    (hK : ∀ w', TM w' b (n + 1) (fun u => if u = t then some y else f u) → w.grownBy w' (some b) → wpList Try.prog ops Q rest (a.put o.dst undef) w') : wpList Try.prog ops Q (o :: rest) a w := by
  refine wpList_plain hg fun K' hK' => ?_
  obtain ⟨w', hrun, r1, r2⟩ := h.put hn ht hy
  unfold Oper.wp
  rcases hop with hop | hop
  · simp [execOp, hop, hm, hx, hv, hrun, Result.andThen]
    exact hK' _ _ (hK w' r1 r2.grown)
  · simp [execOp, hop, hm, hx, hv, hrun, Result.andThen]
    exact hK' _ _ (hK w' r1 r2.grown)
theorem wp_tmake (hg : o.guard = none) (hop : o.op = Op.makeMap 111 none)
    (hK : ∀ b w', b = w.heap.size → TM w' b 0 (fun _ => none) → Below w.heap.size w w' → wpList Try.prog ops Q rest (a.put o.dst (.map (some b))) w') : wpList Try.prog ops Q (o :: rest) a w := by
  refine wpList_plain hg fun K' hK' => ?_
  unfold Oper.wp
  simp [execOp, hop, run_makeMap, Result.andThen]
  exact hK' _ _ (hK _ _ rfl (TM.made w) ((Below.refl _ _).alloc (Nat.le_refl _) _))
end
end Go.Proofs.Ytaapbnhggfmlpaa.M
end
section
set_option linter.unusedVariables false
namespace Go.Proofs.Ytaapbnhggfmlpaa.A
open Go.RowKit Go.Proofs.Ytaapbnhggfmlpaa.P Go.Proofs.YtaapbnhggfmlpaaW.PrintWords Go.Proofs.Ytaapbnhggfmlpaa.M
def setb (d : Int) (i : Nat) : Int := bits BinOp.or IntKind.i64 d (wrap64 (2 ^ i))
def full (n : Nat) : Int := wrap64 (wrap64 (2 ^ n) - 1)
structure Itm where
  w : Nat
  c : Int
  t : T3
def skipb (n : Nat) (fin : Int) (d : Int) (i : Nat) : Prop :=
  bits BinOp.and IntKind.i64 (d / 2 ^ i) 1 = 1 ∨ (0 ≤ fin ∧ ((i : Int) == fin) ≠ (setb d i == full n))
instance (n : Nat) (fin d : Int) (i : Nat) : Decidable (skipb n fin d i) := by unfold skipb; infer_instance
def itm (l : List (List Int)) (fin : Int) (t : T3) (i : Nat) : List Itm :=
  if skipb l.length fin t.d i then [] else
    ⟨i, rd (rd_Ls2 l t.l) i, ⟨setb t.d i, i, t.s⟩⟩ :: (if 0 < t.s then [⟨i, 0, ⟨setb t.d i, i, t.s - 1⟩⟩] else [])
def itms (l : List (List Int)) (fin : Int) (t : T3) (i : Nat) : List Itm := (List.range i).flatMap (itm l fin t)
theorem itms_succ (l : List (List Int)) (fin : Int) (t : T3) (i : Nat) : itms l fin t (i + 1) = itms l fin t i ++ itm l fin t i := by
  unfold itms
  rw [List.range_succ, List.flatMap_append]
  simp
theorem itms_split (l : List (List Int)) (fin : Int) (t : T3) {i n : Nat} (h : i < n) : ∃ post, itms l fin t n = itms l fin t i ++ (itm l fin t i ++ post) := by
  obtain ⟨k, rfl⟩ : ∃ k, n = i + 1 + k := ⟨n - (i + 1), by omega⟩
  clear h
  induction k with
  | zero => exact ⟨[], by rw [Nat.add_zero, itms_succ, List.append_nil]⟩
  | succ k ih =>
    obtain ⟨post, e⟩ := ih
    exact ⟨post ++ itm l fin t (i + 1 + k), by rw [← Nat.add_assoc, itms_succ, e, List.append_assoc, List.append_assoc]⟩
end Go.Proofs.Ytaapbnhggfmlpaa.A
end
section
set_option linter.unusedVariables false
namespace Go.Proofs.Ytaapbnhggfmlpaa.A
open Go.RowKit Go.Proofs.Ytaapbnhggfmlpaa.P Go.Proofs.YtaapbnhggfmlpaaW.PrintWords Go.Proofs.Ytaapbnhggfmlpaa.M
theorem i64_nat (a b : Nat) (ha : a < 2 ^ 20) (hb : b < 2 ^ 20) : bits .and .i64 a b = ((a &&& b : Nat) : Int) ∧ bits .or .i64 a b = ((a ||| b : Nat) : Int) :=
  bits_nat .i64 20 (by decide) (fun n h0 h1 => by rw [IntKind.wrap_i64]; omega) a b ha hb
theorem pow9 {i : Nat} (hi : i ≤ 9) : 2 ^ i ≤ 512 := by
  have : (2:Nat) ^ i ≤ 2 ^ 9 := Nat.pow_le_pow_right (by decide) hi
  simpa using this
theorem wpow (i : Nat) (hi : i ≤ 9) : wrap64 (2 ^ i) = ((2 ^ i : Nat) : Int) := by
  have e : (2 : Int) ^ i = ((2 ^ i : Nat) : Int) := by simp
  have h := pow9 hi
  rw [e]
  clear e
  generalize 2 ^ i = x at h ⊢
  exact Go.IntWalk.wrap64_in _ ⟨by omega, by omega⟩
theorem setb_nat (D i : Nat) (hD : D < 2 ^ 9) (hi : i < 9) : setb D i = ((D ||| 2 ^ i : Nat) : Int) := by
  unfold setb
  rw [wpow i (by omega)]
  exact (i64_nat D (2 ^ i) (by omega) (by have := pow9 (Nat.le_of_lt hi); omega)).2
theorem or_lt {n D i : Nat} (hD : D < 2 ^ n) (hi : i < n) : D ||| 2 ^ i < 2 ^ n := Nat.or_lt_two_pow hD (Nat.pow_lt_pow_right (by decide) hi)
theorem full_nat (n : Nat) (hn : n ≤ 9) : full n = ((2 ^ n - 1 : Nat) : Int) := by
  unfold full
  have := pow9 hn
  have := Nat.one_le_two_pow (n := n)
  rw [wpow n hn, Go.IntWalk.wrap64_in _ ⟨by omega, by omega⟩]
  omega
theorem tst_nat (D i : Nat) (hD : D < 2 ^ 9) : bits .and .i64 ((D : Int) / 2 ^ i) 1 = 1 ↔ D.testBit i = true := by
  have e : ((D : Int) / 2 ^ i) = ((D / 2 ^ i : Nat) : Int) := by simp
  rw [e]
  have h1 := (i64_nat (D / 2 ^ i) 1 (Nat.lt_of_le_of_lt (Nat.div_le_self _ _) (by omega)) (by decide)).1
  rw [show ((1 : Nat) : Int) = 1 from rfl] at h1
  rw [h1, Nat.and_one_is_mod, Nat.testBit_eq_decide_div_mod_eq]
  simp
  omega
/-- How many of the first n wires have no place. -/
def ucnt (n D : Nat) : Nat := ((List.range n).filter fun i => !D.testBit i).length
theorem ucnt_le (n D : Nat) : ucnt n D ≤ n := by
  unfold ucnt
  refine Nat.le_trans (List.length_filter_le _ _) (by simp)
theorem ucnt_succ (n D : Nat) : ucnt (n + 1) D = ucnt n D + (if D.testBit n then 0 else 1) := by
  unfold ucnt
  rw [List.range_succ, List.filter_append, List.length_append]
  cases h : D.testBit n <;> simp [h]
theorem testBit_or_pow (D i j : Nat) : (D ||| 2 ^ i).testBit j = (D.testBit j || decide (i = j)) := by
  rw [Nat.testBit_or, Nat.testBit_two_pow]
theorem ucnt_or (n D i : Nat) (hb : D.testBit i = false) : ucnt n (D ||| 2 ^ i) + (if i < n then 1 else 0) = ucnt n D := by
  induction n with
  | zero => simp [ucnt]
  | succ n ih =>
    rw [ucnt_succ, ucnt_succ, testBit_or_pow]
    by_cases e : i = n
    · subst e
      rw [if_neg (Nat.lt_irrefl i)] at ih
      rw [if_pos (Nat.lt_succ_self i), if_pos (show (D.testBit i || decide (i = i)) = true by simp), if_neg (show ¬ D.testBit i = true by simp [hb])]
      omega
    · by_cases hl : i < n
      · rw [if_pos hl] at ih
        rw [if_pos (show i < n + 1 by omega), show (D.testBit n || decide (i = n)) = D.testBit n by simp [e]]
        omega
      · rw [if_neg hl] at ih
        rw [if_neg (show ¬ i < n + 1 by omega), show (D.testBit n || decide (i = n)) = D.testBit n by simp [e]]
        omega
theorem ucnt_zero (n D : Nat) (hD : D < 2 ^ n) : ucnt n D = 0 ↔ D = 2 ^ n - 1 := by
  have h0 : ucnt n D = 0 ↔ ∀ i, i < n → D.testBit i = true := by
    unfold ucnt
    rw [List.length_eq_zero_iff, List.filter_eq_nil_iff]
    simp
  rw [h0]
  constructor
  · intro h
    refine Nat.eq_of_testBit_eq fun i => ?_
    rw [Nat.testBit_two_pow_sub_one]
    by_cases hi : i < n
    · simp [hi, h i hi]
    · simp [hi]
      exact Nat.testBit_lt_two_pow (Nat.lt_of_lt_of_le hD (Nat.pow_le_pow_right (by decide) (by omega)))
  · rintro rfl i hi
    rw [Nat.testBit_two_pow_sub_one]
    simp [hi]
/-- A task that can come up. -/
def Tk (n : Nat) (t : T3) : Prop := ∃ D L S : Nat, t = ⟨D, L, S⟩ ∧ D < 2 ^ n ∧ L < n ∧ S ≤ 9
theorem Tk.ok {n : Nat} {t : T3} (hn : n ≤ 9) (h : Tk n t) : t.ok := by
  obtain ⟨D, L, S, rfl, h1, h2, h3⟩ := h
  have := pow9 hn
  unfold T3.ok
  refine ⟨?_, ?_, ?_⟩
  all_goals
    simp only [Lit.wf, Bool.and_eq_true, decide_eq_true_eq, show IntKind.i64.min = -9223372036854775808 from rfl, show IntKind.i64.max = 9223372036854775807 from rfl]
    omega
def tcnt (n : Nat) (t : T3) : Nat := ucnt n t.d.toNat
theorem itm_ok {l : List (List Int)} {fin : Int} {t : T3} {i : Nat} (hn : l.length ≤ 9) (ht : Tk l.length t) (hi : i < l.length) : ∀ x ∈ itm l fin t i, Tk l.length x.t ∧ tcnt l.length x.t + 1 = tcnt l.length t ∧ x.w = i ∧ t.d.toNat.testBit i = false ∧ x.t.d.toNat = t.d.toNat ||| 2 ^ i ∧ x.t.l = i := by
  obtain ⟨D, L, S, rfl, h1, h2, h3⟩ := ht
  have h9 := pow9 hn
  intro x hx
  unfold itm at hx
  by_cases hs : skipb l.length fin (D : Int) i
  · rw [if_pos hs] at hx
    cases hx
  · rw [if_neg hs] at hx
    have hb : D.testBit i = false := by
      cases hb : D.testBit i
      · rfl
      · exact absurd (.inl ((tst_nat D i (by omega)).2 hb)) hs
    have e := setb_nat D i (by omega) (by omega)
    have hc := ucnt_or l.length D i hb
    rw [if_pos hi] at hc
    have hlt := or_lt h1 hi
    have fin_ : ∀ S' : Nat, S' ≤ 9 → ∀ c : Int, x = ⟨i, c, ⟨setb D i, i, S'⟩⟩ → Tk l.length x.t ∧ tcnt l.length x.t + 1 = tcnt l.length ⟨D, L, S⟩ ∧ x.w = i ∧ (Int.toNat D).testBit i = false ∧ x.t.d.toNat = Int.toNat D ||| 2 ^ i ∧ x.t.l = i := by
      rintro S' hS' c rfl
      refine ⟨⟨D ||| 2 ^ i, i, S', by simp only [e], hlt, hi, hS'⟩, ?_, rfl, by simpa using hb, by simp only [e, Int.toNat_natCast], rfl⟩
      unfold tcnt
      simp only [e, Int.toNat_natCast]
      exact hc
    rcases List.mem_cons.1 hx with rfl | hx
    · exact fin_ S h3 _ rfl
    · by_cases hS : (0 : Int) < (S : Int)
      · rw [if_pos hS] at hx
        obtain rfl := List.mem_singleton.1 hx
        exact fin_ (S - 1) (by omega) 0 (by
          have : ((S - 1 : Nat) : Int) = (S : Int) - 1 := by omega
          rw [this])
      · rw [if_neg hS] at hx
        cases hx
theorem itms_ok {l : List (List Int)} {fin : Int} {t : T3} (hn : l.length ≤ 9) (ht : Tk l.length t) : ∀ x ∈ itms l fin t l.length, Tk l.length x.t ∧ tcnt l.length x.t + 1 = tcnt l.length t ∧ x.w < l.length ∧ t.d.toNat.testBit x.w = false ∧ x.t.d.toNat = t.d.toNat ||| 2 ^ x.w ∧ x.t.l = x.w := by
  intro x hx
  unfold itms at hx
  obtain ⟨i, hi, hx⟩ := List.mem_flatMap.1 hx
  obtain ⟨a, b, c, d, e, f⟩ := itm_ok hn ht (List.mem_range.1 hi) x hx
  exact ⟨a, b, c ▸ List.mem_range.1 hi, c ▸ d, by rw [e, c], by rw [f, c]⟩
def stepF (F : T3 → Int) (best : Int) (x : Itm) : Int :=
  if 0 ≤ F x.t ∧ (best < 0 ∨ wrap64 (F x.t + x.c) < best) then wrap64 (F x.t + x.c) else best
def baseF (fin : Int) (t : T3) : Int := if 0 < t.s ∨ (0 ≤ fin ∧ t.l ≠ fin) then -1 else 0
def leftF (l : List (List Int)) (fin : Int) : Nat → T3 → Int
  | 0, t => if t.d = full l.length then baseF fin t else -1
  | k + 1, t => if t.d = full l.length then baseF fin t else (itms l fin t l.length).foldl (stepF (leftF l fin k)) (-1)
theorem foldl_congr {α β : Type} {f g : α → β → α} (xs : List β) (a : α) (h : ∀ x ∈ xs, ∀ a, f a x = g a x) : xs.foldl f a = xs.foldl g a := by
  induction xs generalizing a with
  | nil => rfl
  | cons x xs ih => rw [List.foldl_cons, List.foldl_cons, h x (List.mem_cons_self ..), ih _ fun y hy => h y (List.mem_cons_of_mem _ hy)]
theorem leftF_fuel {l : List (List Int)} {fin : Int} (hn : l.length ≤ 9) : ∀ (k : Nat) (t : T3), Tk l.length t → tcnt l.length t ≤ k → leftF l fin k t = leftF l fin (tcnt l.length t) t := by
  intro k
  induction k using Nat.strongRecOn with
  | _ k ih =>
    intro t ht hk
    have hf : tcnt l.length t = 0 → t.d = full l.length := by
      obtain ⟨D, L, S, rfl, h1, h2, h3⟩ := ht
      intro h
      have := (ucnt_zero l.length D h1).1 (by simpa [tcnt] using h)
      simp only [full_nat _ hn, ← this]
    by_cases hd : t.d = full l.length
    · cases k <;> cases tcnt l.length t <;> simp [leftF, hd]
    · cases k with
      | zero => exact absurd (hf (by omega)) hd
      | succ k =>
        obtain ⟨c, hc⟩ : ∃ c, tcnt l.length t = c + 1 := ⟨tcnt l.length t - 1, by have := mt hf hd; omega⟩
        rw [hc]
        simp only [leftF, if_neg hd]
        refine foldl_congr _ _ fun x hx a => ?_
        obtain ⟨h1, h2, _⟩ := itms_ok hn ht x hx
        have e : leftF l fin k x.t = leftF l fin c x.t := by
          rw [ih k (by omega) x.t h1 (by omega)]
          by_cases hck : c < k + 1
          · rw [ih c hck x.t h1 (by omega)]
          · omega
        unfold stepF
        rw [e]
/-- What is left, with enough rounds. -/
def lf (l : List (List Int)) (fin : Int) (t : T3) : Int := leftF l fin 10 t
theorem lf_full {l : List (List Int)} {fin : Int} {t : T3} (h : t.d = full l.length) : lf l fin t = baseF fin t := by
  simp [lf, leftF, h]
theorem lf_eq {l : List (List Int)} {fin : Int} (hn : l.length ≤ 9) {t : T3} (ht : Tk l.length t) (h : t.d ≠ full l.length) : lf l fin t = (itms l fin t l.length).foldl (stepF (lf l fin)) (-1) := by
  unfold lf
  conv => lhs; unfold leftF
  rw [if_neg h]
  refine foldl_congr _ _ fun x hx a => ?_
  obtain ⟨h1, h2, _⟩ := itms_ok hn ht x hx
  have e : leftF l fin 9 x.t = leftF l fin 10 x.t := by
    have := ucnt_le l.length x.t.d.toNat
    have h3 : tcnt l.length x.t ≤ 9 := by unfold tcnt; omega
    rw [leftF_fuel hn 9 x.t h1 h3, leftF_fuel hn 10 x.t h1 (by omega)]
  unfold stepF
  rw [e]
theorem wf_small {x : Int} (h : -9223372036854775808 ≤ x ∧ x ≤ 9223372036854775807) : (Lit.int .i64 x).wf = true := by
  simp only [Lit.wf, Bool.and_eq_true, decide_eq_true_eq, show IntKind.i64.min = -9223372036854775808 from rfl, show IntKind.i64.max = 9223372036854775807 from rfl]
  exact h
theorem lf_wf (l : List (List Int)) (fin : Int) (t : T3) : (Lit.int .i64 (lf l fin t)).wf = true := by
  have hb : (Lit.int .i64 (baseF fin t)).wf = true := by
    unfold baseF
    split <;> exact wf_small (by decide)
  unfold lf leftF
  split
  · exact hb
  · generalize itms l fin t l.length = xs
    suffices h : ∀ (ys : List Itm) (a : Int), (Lit.int .i64 a).wf = true → (Lit.int .i64 (ys.foldl (stepF (leftF l fin 9)) a)).wf = true from h xs (-1) (wf_small (by decide))
    intro ys
    induction ys with
    | nil => exact fun a h => h
    | cons y ys ih =>
      intro a h
      rw [List.foldl_cons]
      refine ih _ ?_
      unfold stepF
      split
      · exact wrap64_wf _
      · exact h
end Go.Proofs.Ytaapbnhggfmlpaa.A
end
section
set_option linter.unusedVariables false
namespace Go.Proofs.Ytaapbnhggfmlpaa.M
open Go.RowKit
structure Fr (F : Nat → Prop) (w w' : World) : Prop where
  os : w'.os = w.os
  tape : w'.tape = w.tape
  output : w'.output = w.output
  size : w.heap.size ≤ w'.heap.size
  block : ∀ i, i < w.heap.size → ¬ F i → w'.heap[i]? = w.heap[i]?
section
variable {F F' : Nat → Prop} {w w1 w2 : World} {B : Nat}
theorem Fr.refl (F : Nat → Prop) (w : World) : Fr F w w := ⟨rfl, rfl, rfl, Nat.le_refl _, fun _ _ _ => rfl⟩
theorem Fr.trans (h : Fr F w w1) (k : Fr F w1 w2) : Fr F w w2 :=
  ⟨k.os.trans h.os, k.tape.trans h.tape, k.output.trans h.output, Nat.le_trans h.size k.size, fun i hi hn => (k.block i (Nat.lt_of_lt_of_le hi h.size) hn).trans (h.block i hi hn)⟩
theorem Fr.then_ (h : Fr F w w1) (k : Fr F' w1 w2) (hs : ∀ i, F' i → F i ∨ w.heap.size ≤ i) : Fr F w w2 :=
  ⟨k.os.trans h.os, k.tape.trans h.tape, k.output.trans h.output, Nat.le_trans h.size k.size, fun i hi hn => (k.block i (Nat.lt_of_lt_of_le hi h.size) (fun h2 => (hs i h2).elim hn (fun h3 => by omega))).trans (h.block i hi hn)⟩
theorem Fr.of_below (h : Below w.heap.size w w1) : Fr F w w1 := ⟨h.os, h.tape, h.output, h.size, fun i hi _ => h.block i hi⟩
theorem Fr.of_grown {row : Option Nat} (h : w.grownBy w1 row) (hr : ∀ k, row = some k → F k) : Fr F w w1 :=
  ⟨h.os, h.tape, h.output, h.size, fun i hi hn => h.block i hi (fun e => hn (hr i e.symm))⟩
theorem Fr.below (hb : Below B w w1) (h : Fr F w1 w2) (hB : B ≤ w1.heap.size) (hF : ∀ k, F k → B ≤ k) : Below B w w2 :=
  ⟨h.os.trans hb.os, h.tape.trans hb.tape, h.output.trans hb.output, Nat.le_trans hb.size h.size, fun i hi => (h.block i (by omega) (fun hf => by have := hF i hf; omega)).trans (hb.block i hi)⟩
theorem Fr.blk (h : Fr F w w1) {g : Nat} {o : Obj} (hb : w.heap[g]? = some o) (hF : ¬ F g) : w1.heap[g]? = some o :=
  (h.block g (by
    rcases Nat.lt_or_ge g w.heap.size with hlt | hge
    · exact hlt
    · rw [Array.getElem?_eq_none hge] at hb; cases hb) hF).trans hb
end
end Go.Proofs.Ytaapbnhggfmlpaa.M
end
section
set_option linter.unusedVariables false
namespace Go.Proofs.Ytaapbnhggfmlpaa.P
open Go.RowKit Go.Proofs.YtaapbnhggfmlpaaW.PrintWords Go.Proofs.YtaapbnhggfmlpaaW.PrintLast Go.Proofs.YtaapbnhggfmlpaaW.PrintMore
section
variable {P : Program} {ops : Array Oper} {Q : Exit → Act → World → Prop}
theorem goesC_ {oi : Oper} {N : Option Tmp} {a : Act} {w : World} {K : Act → World → Prop} {f : FuncId} {fn : Func} {s : Operand} {ass : Array Operand} {ts : Array TypeId} (hf : P.funcs[f]? = some fn) (hname : (fn.name == "runtime.NumGoroutine") = false) (hb : fn.body.isSome = true) (vals caps args : Array Value)
    (hw : Region.wanted oi (yielded ops a.tmps) = true) (hN : oi.dst = N) (hop : oi.op = .call { callee := .value s, args := ass, argTypes := ts }) (hs : a.eval s = .func (.func f) #[] caps) (hvals : ass.map a.eval = vals) (hargs : vals ++ caps = args)
    (h : Calls P f args w fun e w' => ∃ v, e = .returned v ∧ K (a.put N v) w') : if Region.wanted oi (yielded ops a.tmps) = true then Oper.wp P oi a w K Q else K (a.put N undef) w := by
  refine call_ f args hw hN ?_ h
  subst hargs
  have he := enters_ hf hname hb (vals ++ caps) w
  unfold execOp
  simp [hop, resolve, Deferred.ofValue, invoke, hs, hvals, he]
theorem tput_ {oi : Oper} {a : Act} {w w1 : World} {K : Act → World → Prop} {m x v : Operand} {ty : TypeId} {b : Nat} {tv yv : Value} (hw : Region.wanted oi (yielded ops a.tmps) = true) (hN : oi.dst = none) (hop : oi.op = .mapUpdate ty m x v)
    (hm : a.eval m = .map (some b)) (hx : a.eval x = tv) (hv : a.eval v = yv) (hrun : (Instr.mapUpdate ty (.map (some b)) tv yv).run P w = .ok () w1)
    (h : K a w1) : if Region.wanted oi (yielded ops a.tmps) = true then Oper.wp P oi a w K Q else K (a.put none undef) w := by
  refine skip_ hw hN ?_ h
  unfold execOp
  simp [hop, hm, hx, hv, hrun]
end
end Go.Proofs.Ytaapbnhggfmlpaa.P
end
section
set_option linter.unusedVariables false
set_option linter.unusedSimpArgs false
namespace Go.Proofs.Ytaapbnhggfmlpaa.P
open Go.RowKit Go.Proofs.YtaapbnhggfmlpaaW.PrintWords Go.Proofs.YtaapbnhggfmlpaaW.PrintLast Go.Proofs.YtaapbnhggfmlpaaW.PrintMore
open Go.Proofs.Ytaapbnhggfmlpaa.M Go.Proofs.Ytaapbnhggfmlpaa.A
structure PL (w : World) (gp gb gm : Nat) (A : Option Addr) (c : Nat) (l : List (List Int)) (fin : Int) : Prop where
  p : w.heap[gp]? = some (.cells #[.pointer (some ⟨gb, 0, none⟩), .int .i64 fin, .map (some gm)] 113 (0, 0))
  b : w.heap[gb]? = some (.cells #[.slice A l.length c] 44 (0, 0))
  r : Kd.C (Kd.slice 2 (Kd.int .i64)) w A l.length l
/-- The facts that a round of the choices reads. -/
structure Rd (w : World) (gp gb gm gt : Nat) (A : Option Addr) (c : Nat) (l : List (List Int)) (fin d tl ts : Int) : Prop where
  c0 : w.cell? ⟨gp, 0, none⟩ = some (.pointer (some ⟨gb, 0, none⟩))
  c1 : w.cell? ⟨gp, 1, none⟩ = some (.int .i64 fin)
  c2 : w.cell? ⟨gb, 0, none⟩ = some (.slice A l.length c)
  d0 : w.cell? ⟨gt, 0, none⟩ = some (.int .i64 d)
  d1 : w.cell? ⟨gt, 1, none⟩ = some (.int .i64 tl)
  d2 : w.cell? ⟨gt, 2, none⟩ = some (.int .i64 ts)
theorem Rd.mk_ {w : World} {gp gb gm gt : Nat} {A : Option Addr} {c : Nat} {l : List (List Int)} {fin d tl ts : Int} (h : PL w gp gb gm A c l fin) (hb : w.heap[gt]? = some (.cells #[.int .i64 d, .int .i64 tl, .int .i64 ts] 150 (0, 0))) :
    Rd w gp gb gm gt A c l fin d tl ts :=
  ⟨(blk_cell h.p 0).trans rfl, (blk_cell h.p 1).trans rfl, (blk_cell h.b 0).trans rfl, (blk_cell hb 0).trans rfl, (blk_cell hb 1).trans rfl, (blk_cell hb 2).trans rfl⟩
set_option maxHeartbeats 2000000 in
set_option maxRecDepth 100000 in
theorem choices_ {f : FuncId} {fn : Func} (hf : Try.prog.funcs[f]? = some fn) (hnm : (fn.name == "runtime.NumGoroutine") = false) (hbd : fn.body.isSome = true) (caps : Array Value) (gp gb gm : Nat) (A : Option Addr) (c : Nat) (l : List (List Int)) (fin d ts : Int) (tl : Nat) (w : World) (I : List Itm → World → Prop) (F : Nat → Prop)
    (hn : l.length ≤ 9) (htl : tl < l.length) (hts : 0 ≤ ts ∧ ts ≤ 9) (hrow : ∀ j : Nat, j < l.length → (rd_Ls2 l j).length = l.length)
    (hI0 : I [] w) (hPL : ∀ pre w', I pre w' → PL w' gp gb gm A c l fin) (hst : ∀ pre w1 w2, I pre w1 → Below w1.heap.size w1 w2 → I pre w2) (hF : ∀ k, F k → k < w.heap.size)
    (hdo : ∀ pre x post w', itms l fin ⟨d, tl, ts⟩ l.length = pre ++ x :: post → I pre w' →
      Calls Try.prog f (#[.int .i64 x.w, .int .i64 x.c, x.t.v] ++ caps) w' fun e w'' => e = .returned (.tuple #[]) ∧ I (pre ++ [x]) w'' ∧ Fr F w' w'') :
    Calls Try.prog 124 #[.pointer (some ⟨gp, 0, none⟩), T3.v ⟨d, tl, ts⟩, .func (.func f) #[] caps] w fun e w' => e = .returned (.tuple #[]) ∧ I (itms l fin ⟨d, tl, ts⟩ l.length) w' ∧ Fr F w w' := by
  have HI0 := Aside0.mk hI0
  have HPL := Aside0.mk hPL
  have HST := Aside0.mk hst
  have HF := Aside0.mk hF
  have HDO := Aside0.mk hdo
  have HROW := Aside0.mk hrow
  have hp := hPL _ _ hI0
  have hc0 : w.cell? ⟨gp, 0, none⟩ = some (.pointer (some ⟨gb, 0, none⟩)) := (blk_cell hp.p 0).trans rfl
  have hc2 : w.cell? ⟨gb, 0, none⟩ = some (.slice A l.length c) := (blk_cell hp.b 0).trans rfl
  clear hI0 hPL hst hF hdo hrow hp
  obtain ⟨hts0, hts9⟩ := hts
  have hu150 := Try.underlying150
  have hu113 := Try.underlying113
  have hu44 := Try.underlying44
  go_enter Try.func124, Try.ntmps124
  go_wp2_with (first
      | ((with_reducible refine gate_dst (N := 4) rfl ?_); refine box_event ?hg (N := 4) ?hd (cs := #[.int .i64 d, .int .i64 tl, .int .i64 ts]) (t := 150) ?hr ?_; (case hd => rfl); (case hg => rfl); (case hr => first | (go_simp; done) | (go_simp; rfl)); intro gt hg w2 hbox hb; clear hc0 hc2; have HI := Aside0.mk (HST.out _ _ _ HI0.out hb); have HFR := Aside0.mk (Fr.of_below (F := F) hb); have BK := Aside0.mk hbox; have hgt := Aside0.mk (show ¬ F gt from fun hf => by have := HF.out _ hf; omega); clear HI0 hb hbox hg; have hp := HPL.out _ _ HI.out; have hc0 : w2.cell? ⟨gp, 0, none⟩ = some (.pointer (some ⟨gb, 0, none⟩)) := (blk_cell hp.p 0).trans rfl; have hc2 : w2.cell? ⟨gb, 0, none⟩ = some (.slice A l.length c) := (blk_cell hp.b 0).trans rfl; clear hp))
  clear hc0 hc2
  go_loopw [18] (fun v18 wr => ∃ i : Nat, v18 = .int .i64 i ∧ i ≤ l.length ∧ Aside0 (I (itms l fin ⟨d, tl, ts⟩ i) wr) ∧ Aside0 (Fr F w wr) ∧ Aside0 (wr.heap[gt]? = some (.cells #[.int .i64 d, .int .i64 tl, .int .i64 ts] 150 (0, 0)))) (fun v _ => l.length - (intOf v).toNat)
  case atStart => exact ⟨0, rfl, by omega, HI, HFR, BK⟩
  case round =>
    clear HI HFR BK
    obtain ⟨i, rfl, hi, HI, HFR, BK⟩ := hrel
    by_cases ci : i < l.length
    · have hsucc := Aside0.mk (itms_succ l fin ⟨d, tl, ts⟩ i)
      obtain ⟨hc0, hc1, hc2, hd0, hd1, hd2⟩ := Rd.mk_ (HPL.out _ _ HI.out) BK.out
      have hR := Aside0.mk (HPL.out _ _ HI.out).r
      obtain ⟨ad, A1, cc1, e1, hx1, hl1, hi1⟩ := at_Ls2 hR.out (tl : Int) (by omega) (by omega)
      cases e1
      obtain ⟨ad2, e2, hx2⟩ := Kd.at_int hi1 (i : Int) (by omega) (by rw [HROW.out tl htl]; omega)
      cases e2
      have hlr := HROW.out tl htl
      have hx1' : wr.cell? (ad.add tl) = some (.slice (some ad2) l.length cc1) := by rw [← hlr]; exact hx1
      have hx2' : wr.cell? (ad2.add i) = some (.int .i64 (rd (rd_Ls2 l tl) i)) := hx2
      clear hx1 hx2 hi1 hR hl1 hlr
      go_wp2
      go_quiet (fail)
      go_wp2
      · have w1 : bits BinOp.and IntKind.i64 (d / 2 ^ i) 1 = 1 := by assumption
        have hE := Aside0.mk (hsucc.out.trans (by rw [show itm l fin ⟨d, tl, ts⟩ i = [] from if_pos (.inl w1), List.append_nil]))
        exact ⟨⟨i + 1, by go_num, by omega, ⟨by rw [hE.out]; exact HST.out _ _ _ HI.out (pw_below_drewN (Below.refl _ _) _)⟩, ⟨HFR.out.trans (Fr.of_below (pw_below_drewN (Below.refl _ _) _))⟩, ⟨BK.out⟩⟩, by simp [intOf]; omega⟩
      · have w1 : ¬ bits BinOp.and IntKind.i64 (d / 2 ^ i) 1 = 1 := by assumption
        have w2 : 0 ≤ fin := by assumption
        have w3 : (bits BinOp.and IntKind.i64 (d / 2 ^ i) 1 == 1) = true ∨ (!(↑i == fin) == (bits BinOp.or IntKind.i64 d (wrap64 (2 ^ i)) == wrap64 (wrap64 (2 ^ l.length) - 1))) = true := by assumption
        have w4 : skipb l.length fin d i := .inr ⟨w2, fun e => by
          rcases w3 with h | h
          · exact w1 (by simpa using h)
          · unfold setb full at e; rw [e] at h; simp at h⟩
        have hE := Aside0.mk (hsucc.out.trans (by rw [show itm l fin ⟨d, tl, ts⟩ i = [] from if_pos w4, List.append_nil]))
        exact ⟨⟨i + 1, by go_num, by omega, ⟨by rw [hE.out]; exact HST.out _ _ _ HI.out (pw_below_drewN (Below.refl _ _) _)⟩, ⟨HFR.out.trans (Fr.of_below (pw_below_drewN (Below.refl _ _) _))⟩, ⟨BK.out⟩⟩, by simp [intOf]; omega⟩
      all_goals
        have w1 : ¬ bits BinOp.and IntKind.i64 (d / 2 ^ i) 1 = 1 := by assumption
        have hns : ¬ skipb l.length fin d i := by
          rintro (h | ⟨h0, h⟩)
          · exact w1 h
          · first
              | (have w3 : (bits BinOp.and IntKind.i64 (d / 2 ^ i) 1 == 1) = false ∧ (!(↑i == fin) == (bits BinOp.or IntKind.i64 d (wrap64 (2 ^ i)) == wrap64 (wrap64 (2 ^ l.length) - 1))) = false := by assumption
                 apply h
                 have h3 := w3.2
                 unfold setb full
                 revert h3
                 generalize ((i : Int) == fin) = x
                 generalize (bits BinOp.or IntKind.i64 d (wrap64 (2 ^ i)) == wrap64 (wrap64 (2 ^ l.length) - 1)) = y
                 revert x y
                 decide)
              | (have h4 : fin < 0 := by assumption
                 omega)
        have hE := Aside0.mk (hsucc.out.trans (by rw [show itm l fin ⟨d, tl, ts⟩ i = _ from if_neg hns]))
        obtain ⟨post, hSp⟩ : ∃ post, Aside0 (itms l fin ⟨d, tl, ts⟩ l.length = itms l fin ⟨d, tl, ts⟩ i ++ ⟨i, rd (rd_Ls2 l tl) i, ⟨setb d i, i, ts⟩⟩ :: ((if 0 < ts then [⟨i, 0, ⟨setb d i, i, ts - 1⟩⟩] else []) ++ post)) := by
          obtain ⟨post, e⟩ := itms_split l fin ⟨d, tl, ts⟩ ci
          rw [show itm l fin ⟨d, tl, ts⟩ i = _ from if_neg hns] at e
          exact ⟨post, ⟨e⟩⟩
        refine start_ (n := 26) (S := fun w' => w'.cell? ⟨gp, 0, none⟩ = some (.pointer (some ⟨gb, 0, none⟩)) ∧ w'.cell? ⟨gb, 0, none⟩ = some (.slice (some ad) l.length c) ∧ w'.cell? ⟨gt, 0, none⟩ = some (.int .i64 d) ∧ w'.cell? ⟨gt, 1, none⟩ = some (.int .i64 tl) ∧ w'.cell? ⟨gt, 2, none⟩ = some (.int .i64 ts) ∧ w'.cell? (ad.add tl) = some (.slice (some ad2) l.length cc1) ∧ w'.cell? (ad2.add i) = some (.int .i64 (rd (rd_Ls2 l tl) i))) (ds := [25]) #[false, false, false, false, false, false, false, false, false, false, false, false, false, false, false, false, false, false, false, false, false, false, false, false, false, false] (by kernel_rfl) rfl rfl ⟨hc0, hc2, hd0, hd1, hd2, hx1', hx2'⟩ (fun hHeld => ?_)
        refine pure_ (i := 0) (N := some 53) (v := ?_) (a' := ?_) #[true, false, false, false, false, false, false, false, false, false, false, false, false, false, false, false, false, false, false, false, false, false, false, false, false, false] rfl rfl (by kernel_rfl) (fun _ _ _ h => h) (Or.inl ⟨by rfl, ?_⟩) ?_ ?_
        rotate_left
        · intro w'
          go_simp
          with_reducible rfl
        rotate_left
        · simp only [Act.put, List.setIfInBounds_toArray, List.set_cons_zero, List.set_cons_succ, i64_w, i32_w]
          rfl
        refine pure_ (i := 1) (N := some 54) (v := ?_) (a' := ?_) #[true, true, false, false, false, false, false, false, false, false, false, false, false, false, false, false, false, false, false, false, false, false, false, false, false, false] rfl rfl (by kernel_rfl) (fun _ _ _ h => h) (Or.inl ⟨by rfl, ?_⟩) ?_ ?_
        rotate_left
        · intro w'
          go_simp
          with_reducible rfl
        rotate_left
        · simp only [Act.put, List.setIfInBounds_toArray, List.set_cons_zero, List.set_cons_succ, i64_w, i32_w]
          rfl
        refine pure_ (i := 2) (N := some 55) (v := ?_) (a' := ?_) #[true, true, true, false, false, false, false, false, false, false, false, false, false, false, false, false, false, false, false, false, false, false, false, false, false, false] rfl rfl (by kernel_rfl) (fun _ _ _ h => h) (Or.inl ⟨by rfl, ?_⟩) ?_ ?_
        rotate_left
        · intro w'
          go_simp
          with_reducible rfl
        rotate_left
        · simp only [Act.put, List.setIfInBounds_toArray, List.set_cons_zero, List.set_cons_succ, i64_w, i32_w]
          rfl
        refine pure_ (i := 3) (N := some 56) (v := ?_) (a' := ?_) #[true, true, true, true, false, false, false, false, false, false, false, false, false, false, false, false, false, false, false, false, false, false, false, false, false, false] rfl rfl (by kernel_rfl) (fun _ _ _ h => h) (Or.inl ⟨by rfl, ?_⟩) ?_ ?_
        rotate_left
        · intro w'
          go_simp
          with_reducible rfl
        rotate_left
        · simp only [Act.put, List.setIfInBounds_toArray, List.set_cons_zero, List.set_cons_succ, i64_w, i32_w]
          rfl
        refine pure_ (i := 4) (N := some 57) (v := ?_) (a' := ?_) #[true, true, true, true, true, false, false, false, false, false, false, false, false, false, false, false, false, false, false, false, false, false, false, false, false, false] rfl rfl (by kernel_rfl) (fun _ _ _ h => h) (Or.inl ⟨by rfl, ?_⟩) ?_ ?_
        rotate_left
        · intro w'
          go_simp
          with_reducible rfl
        rotate_left
        · simp only [Act.put, List.setIfInBounds_toArray, List.set_cons_zero, List.set_cons_succ, i64_w, i32_w]
          rfl
        refine pure_ (i := 9) (N := some 62) (v := ?_) (a' := ?_) #[true, true, true, true, true, false, false, false, false, true, false, false, false, false, false, false, false, false, false, false, false, false, false, false, false, false] rfl rfl (by kernel_rfl) (fun _ _ _ h => h) (Or.inl ⟨by rfl, ?_⟩) ?_ ?_
        rotate_left
        · intro w'
          go_simp
          with_reducible rfl
        rotate_left
        · simp only [Act.put, List.setIfInBounds_toArray, List.set_cons_zero, List.set_cons_succ, i64_w, i32_w]
          rfl
        refine pure_ (i := 13) (N := some 66) (v := ?_) (a' := ?_) #[true, true, true, true, true, false, false, false, false, true, false, false, false, true, false, false, false, false, false, false, false, false, false, false, false, false] rfl rfl (by kernel_rfl) (fun _ _ _ h => h) (Or.inl ⟨by rfl, ?_⟩) ?_ ?_
        rotate_left
        · intro w'
          go_simp
          with_reducible rfl
        rotate_left
        · simp only [Act.put, List.setIfInBounds_toArray, List.set_cons_zero, List.set_cons_succ, i64_w, i32_w]
          rfl
        refine pure_ (i := 16) (N := some 69) (v := ?_) (a' := ?_) #[true, true, true, true, true, false, false, false, false, true, false, false, false, true, false, false, true, false, false, false, false, false, false, false, false, false] rfl rfl (by kernel_rfl) (fun _ _ _ h => h) (Or.inl ⟨by rfl, ?_⟩) ?_ ?_
        rotate_left
        · intro w'
          go_simp
          with_reducible rfl
        rotate_left
        · simp only [Act.put, List.setIfInBounds_toArray, List.set_cons_zero, List.set_cons_succ, i64_w, i32_w]
          rfl
        refine pure_ (i := 18) (N := some 71) (v := ?_) (a' := ?_) #[true, true, true, true, true, false, false, false, false, true, false, false, false, true, false, false, true, false, true, false, false, false, false, false, false, false] rfl rfl (by kernel_rfl) (fun _ _ _ h => h) (Or.inl ⟨by rfl, ?_⟩) ?_ ?_
        rotate_left
        · intro w'
          go_simp
          with_reducible rfl
        rotate_left
        · simp only [Act.put, List.setIfInBounds_toArray, List.set_cons_zero, List.set_cons_succ, i64_w, i32_w]
          rfl
        refine pure_ (i := 19) (N := some 72) (v := ?_) (a' := ?_) #[true, true, true, true, true, false, false, false, false, true, false, false, false, true, false, false, true, false, true, true, false, false, false, false, false, false] rfl rfl (by kernel_rfl) (fun _ _ _ h => h) (Or.inl ⟨by rfl, ?_⟩) ?_ ?_
        rotate_left
        · intro w'
          go_simp
          with_reducible rfl
        rotate_left
        · simp only [Act.put, List.setIfInBounds_toArray, List.set_cons_zero, List.set_cons_succ, i64_w, i32_w]
          rfl
        refine pure_ (i := 21) (N := some 74) (v := ?_) (a' := ?_) #[true, true, true, true, true, false, false, false, false, true, false, false, false, true, false, false, true, false, true, true, false, true, false, false, false, false] rfl rfl (by kernel_rfl) (fun _ _ _ h => h) (Or.inl ⟨by rfl, ?_⟩) ?_ ?_
        rotate_left
        · intro w'
          go_simp
          with_reducible rfl
        rotate_left
        · simp only [Act.put, List.setIfInBounds_toArray, List.set_cons_zero, List.set_cons_succ, i64_w, i32_w]
          rfl
        refine pure_ (i := 22) (N := some 75) (v := ?_) (a' := ?_) #[true, true, true, true, true, false, false, false, false, true, false, false, false, true, false, false, true, false, true, true, false, true, true, false, false, false] rfl rfl (by kernel_rfl) (fun _ _ _ h => h) (Or.inl ⟨by rfl, ?_⟩) ?_ ?_
        rotate_left
        · intro w'
          go_simp
          with_reducible rfl
        rotate_left
        · simp only [Act.put, List.setIfInBounds_toArray, List.set_cons_zero, List.set_cons_succ, i64_w, i32_w]
          rfl
        refine take_ (i := 5) (N := some 58) (v := ?_) (a' := ?_) #[true, true, true, true, true, true, false, false, false, true, false, false, false, true, false, false, true, false, true, true, false, true, true, false, false, false] rfl rfl (by kernel_rfl) (fun _ _ _ h => h) (Or.inl ⟨by rfl, ?_⟩) hHeld ?_ ?_
        rotate_left
        · rintro w' ⟨s0, s1, s2, s3, s4, s5, s6⟩
          go_simp
          with_reducible rfl
        rotate_left
        · simp only [Act.put, List.setIfInBounds_toArray, List.set_cons_zero, List.set_cons_succ, i64_w, i32_w]
          rfl
        refine pure_ (i := 6) (N := some 59) (v := ?_) (a' := ?_) #[true, true, true, true, true, true, true, false, false, true, false, false, false, true, false, false, true, false, true, true, false, true, true, false, false, false] rfl rfl (by kernel_rfl) (fun _ _ _ h => h) (Or.inl ⟨by rfl, ?_⟩) ?_ ?_
        rotate_left
        · intro w'
          go_simp
          with_reducible rfl
        rotate_left
        · simp only [Act.put, List.setIfInBounds_toArray, List.set_cons_zero, List.set_cons_succ, i64_w, i32_w]
          rfl
        refine pure_ (i := 7) (N := some 60) (v := ?_) (a' := ?_) #[true, true, true, true, true, true, true, true, false, true, false, false, false, true, false, false, true, false, true, true, false, true, true, false, false, false] rfl rfl (by kernel_rfl) (fun _ _ _ h => h) (Or.inl ⟨by rfl, ?_⟩) ?_ ?_
        rotate_left
        · intro w'
          go_simp
          with_reducible rfl
        rotate_left
        · simp only [Act.put, List.setIfInBounds_toArray, List.set_cons_zero, List.set_cons_succ, i64_w, i32_w]
          rfl
        refine take_ (i := 8) (N := some 61) (v := ?_) (a' := ?_) #[true, true, true, true, true, true, true, true, true, true, false, false, false, true, false, false, true, false, true, true, false, true, true, false, false, false] rfl rfl (by kernel_rfl) (fun _ _ _ h => h) (Or.inl ⟨by rfl, ?_⟩) hHeld ?_ ?_
        rotate_left
        · rintro w' ⟨s0, s1, s2, s3, s4, s5, s6⟩
          go_simp
          with_reducible rfl
        rotate_left
        · simp only [Act.put, List.setIfInBounds_toArray, List.set_cons_zero, List.set_cons_succ, i64_w, i32_w]
          rfl
        refine take_ (i := 10) (N := some 63) (v := ?_) (a' := ?_) #[true, true, true, true, true, true, true, true, true, true, true, false, false, true, false, false, true, false, true, true, false, true, true, false, false, false] rfl rfl (by kernel_rfl) (fun _ _ _ h => h) (Or.inl ⟨by rfl, ?_⟩) hHeld ?_ ?_
        rotate_left
        · rintro w' ⟨s0, s1, s2, s3, s4, s5, s6⟩
          go_simp
          with_reducible rfl
        rotate_left
        · simp only [Act.put, List.setIfInBounds_toArray, List.set_cons_zero, List.set_cons_succ, i64_w, i32_w]
          rfl
        refine pure_ (i := 11) (N := some 64) (v := ?_) (a' := ?_) #[true, true, true, true, true, true, true, true, true, true, true, true, false, true, false, false, true, false, true, true, false, true, true, false, false, false] rfl rfl (by kernel_rfl) (fun _ _ _ h => h) (Or.inl ⟨by rfl, ?_⟩) ?_ ?_
        rotate_left
        · intro w'
          go_simp
          with_reducible rfl
        rotate_left
        · simp only [Act.put, List.setIfInBounds_toArray, List.set_cons_zero, List.set_cons_succ, i64_w, i32_w]
          rfl
        refine take_ (i := 12) (N := some 65) (v := ?_) (a' := ?_) #[true, true, true, true, true, true, true, true, true, true, true, true, true, true, false, false, true, false, true, true, false, true, true, false, false, false] rfl rfl (by kernel_rfl) (fun _ _ _ h => h) (Or.inl ⟨by rfl, ?_⟩) hHeld ?_ ?_
        rotate_left
        · rintro w' ⟨s0, s1, s2, s3, s4, s5, s6⟩
          go_simp
          with_reducible rfl
        rotate_left
        · simp only [Act.put, List.setIfInBounds_toArray, List.set_cons_zero, List.set_cons_succ, i64_w, i32_w]
          rfl
        refine pure_ (i := 14) (N := some 67) (v := ?_) (a' := ?_) #[true, true, true, true, true, true, true, true, true, true, true, true, true, true, true, false, true, false, true, true, false, true, true, false, false, false] rfl rfl (by kernel_rfl) (fun _ _ _ h => h) (Or.inl ⟨by rfl, ?_⟩) ?_ ?_
        rotate_left
        · intro w'
          go_simp
          with_reducible rfl
        rotate_left
        · simp only [Act.put, List.setIfInBounds_toArray, List.set_cons_zero, List.set_cons_succ, i64_w, i32_w]
          rfl
        refine take_ (i := 15) (N := some 68) (v := ?_) (a' := ?_) #[true, true, true, true, true, true, true, true, true, true, true, true, true, true, true, true, true, false, true, true, false, true, true, false, false, false] rfl rfl (by kernel_rfl) (fun _ _ _ h => h) (Or.inl ⟨by rfl, ?_⟩) hHeld ?_ ?_
        rotate_left
        · rintro w' ⟨s0, s1, s2, s3, s4, s5, s6⟩
          go_simp
          with_reducible rfl
        rotate_left
        · simp only [Act.put, List.setIfInBounds_toArray, List.set_cons_zero, List.set_cons_succ, i64_w, i32_w]
          rfl
        refine take_ (i := 17) (N := some 70) (v := ?_) (a' := ?_) #[true, true, true, true, true, true, true, true, true, true, true, true, true, true, true, true, true, true, true, true, false, true, true, false, false, false] rfl rfl (by kernel_rfl) (fun _ _ _ h => h) (Or.inl ⟨by rfl, ?_⟩) hHeld ?_ ?_
        rotate_left
        · rintro w' ⟨s0, s1, s2, s3, s4, s5, s6⟩
          go_simp
          with_reducible rfl
        rotate_left
        · simp only [Act.put, List.setIfInBounds_toArray, List.set_cons_zero, List.set_cons_succ, i64_w, i32_w]
          rfl
        refine pure_ (i := 20) (N := some 73) (v := ?_) (a' := ?_) #[true, true, true, true, true, true, true, true, true, true, true, true, true, true, true, true, true, true, true, true, true, true, true, false, false, false] rfl rfl (by kernel_rfl) (fun _ _ _ h => h) (Or.inl ⟨by rfl, ?_⟩) ?_ ?_
        rotate_left
        · intro w'
          go_simp
          with_reducible rfl
        rotate_left
        · simp only [Act.put, List.setIfInBounds_toArray, List.set_cons_zero, List.set_cons_succ, i64_w, i32_w]
          rfl
        refine take_ (i := 23) (N := some 76) (v := ?_) (a' := ?_) #[true, true, true, true, true, true, true, true, true, true, true, true, true, true, true, true, true, true, true, true, true, true, true, true, false, false] rfl rfl (by kernel_rfl) (fun _ _ _ h => h) (Or.inl ⟨by rfl, ?_⟩) hHeld ?_ ?_
        rotate_left
        · rintro w' ⟨s0, s1, s2, s3, s4, s5, s6⟩
          go_simp
          with_reducible rfl
        rotate_left
        · simp only [Act.put, List.setIfInBounds_toArray, List.set_cons_zero, List.set_cons_succ, i64_w, i32_w]
          rfl
        refine pure_ (i := 24) (N := some 77) (v := ?_) (a' := ?_) #[true, true, true, true, true, true, true, true, true, true, true, true, true, true, true, true, true, true, true, true, true, true, true, true, true, false] rfl rfl (by kernel_rfl) (fun _ _ _ h => h) (Or.inl ⟨by rfl, ?_⟩) ?_ ?_
        rotate_left
        · intro w'
          go_simp
          with_reducible rfl
        rotate_left
        · simp only [Act.put, List.setIfInBounds_toArray, List.set_cons_zero, List.set_cons_succ, i64_w, i32_w]
          rfl
        refine last_ (i := 25) (N := some 78) #[true, true, true, true, true, true, true, true, true, true, true, true, true, true, true, true, true, true, true, true, true, true, true, true, true, true] rfl rfl (by kernel_rfl) (by decide) (fun K hK => ?_)
        refine goesC_ hf hnm hbd #[.int .i64 i, .int .i64 (rd (rd_Ls2 l tl) i), T3.v ⟨setb d i, i, ts⟩] caps _ (by rfl) rfl rfl rfl (by simp only [List.map_toArray, List.map_cons, List.map_nil]; rfl) rfl ?_
        refine (HDO.out (itms l fin ⟨d, tl, ts⟩ i) ⟨i, rd (rd_Ls2 l tl) i, ⟨setb d i, i, ts⟩⟩ ((if 0 < ts then [⟨i, 0, ⟨setb d i, i, ts - 1⟩⟩] else []) ++ post) _ hSp.out (HST.out _ _ _ HI.out (Below.drew (pw_below_drewN (Below.refl _ _) _)))).mono ?_
        rintro e w3 ⟨rfl, hI3, hF3⟩
        refine ⟨_, rfl, ?_⟩
        have HI3 := Aside0.mk hI3
        have HF3 := Aside0.mk hF3
        clear hI3 hF3
        refine hK.out _ _ ?_
        clear hK K
        refine norm_ (a' := ?_) ?_ ?_
        rotate_left
        · show Act.put _ (some 78) _ = _
          simp only [Act.put, List.setIfInBounds_toArray, List.set_cons_zero, List.set_cons_succ, i64_w, i32_w]
          rfl
        refine done_ (by kernel_rfl) ?_

        have HFQ := Aside0.mk ((Fr.of_below (Below.drew (pw_below_drewN (Below.refl wr.heap.size wr) _))).trans HF3.out)
        have BK3 := Aside0.mk (HFQ.out.blk BK.out hgt.out)
        have HFR3 := Aside0.mk (HFR.out.trans HFQ.out)
        clear hc0 hc1 hc2 hd0 hd1 hd2 hx1' hx2' HI HFR BK HF3 HFQ
        obtain ⟨hc0, hc1, hc2, hd0, hd1, hd2⟩ := Rd.mk_ (HPL.out _ _ HI3.out) BK3.out
        go_wp2
        · have hts1 : 0 < ts := by assumption
          have hwr : wrap64 (ts - 1) = ts - 1 := by first | exact wrap64_small (by omega) (by omega) | (unfold wrap64; omega)
          have hS2 : Aside0 (itms l fin ⟨d, tl, ts⟩ l.length = (itms l fin ⟨d, tl, ts⟩ i ++ [⟨i, rd (rd_Ls2 l tl) i, ⟨setb d i, i, ts⟩⟩]) ++ ⟨i, 0, ⟨setb d i, i, ts - 1⟩⟩ :: post) := by
            refine ⟨?_⟩
            have e := hSp.out
            rw [if_pos hts1] at e
            rw [List.append_assoc]
            exact e
          have hE2 : Aside0 (itms l fin ⟨d, tl, ts⟩ (i + 1) = (itms l fin ⟨d, tl, ts⟩ i ++ [⟨i, rd (rd_Ls2 l tl) i, ⟨setb d i, i, ts⟩⟩]) ++ [⟨i, 0, ⟨setb d i, i, ts - 1⟩⟩]) := by
            refine ⟨?_⟩
            have e := hE.out
            rw [if_pos hts1] at e
            rw [List.append_assoc]
            exact e
          refine start_ (n := 13) (S := fun w' => w'.cell? ⟨gt, 0, none⟩ = some (.int .i64 d) ∧ w'.cell? ⟨gt, 2, none⟩ = some (.int .i64 ts)) (ds := [12]) #[false, false, false, false, false, false, false, false, false, false, false, false, false] (by kernel_rfl) rfl rfl ⟨hd0, hd2⟩ (fun hHeld => ?_)
          refine pure_ (i := 0) (N := some 82) (v := ?_) (a' := ?_) #[true, false, false, false, false, false, false, false, false, false, false, false, false] rfl rfl (by kernel_rfl) (fun _ _ _ h => h) (Or.inl ⟨by rfl, ?_⟩) ?_ ?_
          rotate_left
          · intro w'
            go_simp
            with_reducible rfl
          rotate_left
          · simp only [Act.put, List.setIfInBounds_toArray, List.set_cons_zero, List.set_cons_succ, i64_w, i32_w]
            rfl
          refine pure_ (i := 1) (N := some 83) (v := ?_) (a' := ?_) #[true, true, false, false, false, false, false, false, false, false, false, false, false] rfl rfl (by kernel_rfl) (fun _ _ _ h => h) (Or.inl ⟨by rfl, ?_⟩) ?_ ?_
          rotate_left
          · intro w'
            go_simp
            with_reducible rfl
          rotate_left
          · simp only [Act.put, List.setIfInBounds_toArray, List.set_cons_zero, List.set_cons_succ, i64_w, i32_w]
            rfl
          refine pure_ (i := 2) (N := some 84) (v := ?_) (a' := ?_) #[true, true, true, false, false, false, false, false, false, false, false, false, false] rfl rfl (by kernel_rfl) (fun _ _ _ h => h) (Or.inl ⟨by rfl, ?_⟩) ?_ ?_
          rotate_left
          · intro w'
            go_simp
            with_reducible rfl
          rotate_left
          · simp only [Act.put, List.setIfInBounds_toArray, List.set_cons_zero, List.set_cons_succ, i64_w, i32_w]
            rfl
          refine pure_ (i := 4) (N := some 86) (v := ?_) (a' := ?_) #[true, true, true, false, true, false, false, false, false, false, false, false, false] rfl rfl (by kernel_rfl) (fun _ _ _ h => h) (Or.inl ⟨by rfl, ?_⟩) ?_ ?_
          rotate_left
          · intro w'
            go_simp
            with_reducible rfl
          rotate_left
          · simp only [Act.put, List.setIfInBounds_toArray, List.set_cons_zero, List.set_cons_succ, i64_w, i32_w]
            rfl
          refine pure_ (i := 5) (N := some 87) (v := ?_) (a' := ?_) #[true, true, true, false, true, true, false, false, false, false, false, false, false] rfl rfl (by kernel_rfl) (fun _ _ _ h => h) (Or.inl ⟨by rfl, ?_⟩) ?_ ?_
          rotate_left
          · intro w'
            go_simp
            with_reducible rfl
          rotate_left
          · simp only [Act.put, List.setIfInBounds_toArray, List.set_cons_zero, List.set_cons_succ, i64_w, i32_w]
            rfl
          refine pure_ (i := 7) (N := some 89) (v := ?_) (a' := ?_) #[true, true, true, false, true, true, false, true, false, false, false, false, false] rfl rfl (by kernel_rfl) (fun _ _ _ h => h) (Or.inl ⟨by rfl, ?_⟩) ?_ ?_
          rotate_left
          · intro w'
            go_simp
            with_reducible rfl
          rotate_left
          · simp only [Act.put, List.setIfInBounds_toArray, List.set_cons_zero, List.set_cons_succ, i64_w, i32_w]
            rfl
          refine pure_ (i := 8) (N := some 90) (v := ?_) (a' := ?_) #[true, true, true, false, true, true, false, true, true, false, false, false, false] rfl rfl (by kernel_rfl) (fun _ _ _ h => h) (Or.inl ⟨by rfl, ?_⟩) ?_ ?_
          rotate_left
          · intro w'
            go_simp
            with_reducible rfl
          rotate_left
          · simp only [Act.put, List.setIfInBounds_toArray, List.set_cons_zero, List.set_cons_succ, i64_w, i32_w]
            rfl
          refine take_ (i := 3) (N := some 85) (v := ?_) (a' := ?_) #[true, true, true, true, true, true, false, true, true, false, false, false, false] rfl rfl (by kernel_rfl) (fun _ _ _ h => h) (Or.inl ⟨by rfl, ?_⟩) hHeld ?_ ?_
          rotate_left
          · rintro w' ⟨s0, s1⟩
            go_simp
            with_reducible rfl
          rotate_left
          · simp only [Act.put, List.setIfInBounds_toArray, List.set_cons_zero, List.set_cons_succ, i64_w, i32_w]
            rfl
          refine pure_ (i := 6) (N := some 88) (v := ?_) (a' := ?_) #[true, true, true, true, true, true, true, true, true, false, false, false, false] rfl rfl (by kernel_rfl) (fun _ _ _ h => h) (Or.inl ⟨by rfl, ?_⟩) ?_ ?_
          rotate_left
          · intro w'
            go_simp
            with_reducible rfl
          rotate_left
          · simp only [Act.put, List.setIfInBounds_toArray, List.set_cons_zero, List.set_cons_succ, i64_w, i32_w]
            rfl
          refine take_ (i := 9) (N := some 91) (v := ?_) (a' := ?_) #[true, true, true, true, true, true, true, true, true, true, false, false, false] rfl rfl (by kernel_rfl) (fun _ _ _ h => h) (Or.inl ⟨by rfl, ?_⟩) hHeld ?_ ?_
          rotate_left
          · rintro w' ⟨s0, s1⟩
            go_simp
            with_reducible rfl
          rotate_left
          · simp only [Act.put, List.setIfInBounds_toArray, List.set_cons_zero, List.set_cons_succ, i64_w, i32_w]
            rfl
          refine pure_ (i := 10) (N := some 92) (v := ?_) (a' := ?_) #[true, true, true, true, true, true, true, true, true, true, true, false, false] rfl rfl (by kernel_rfl) (fun _ _ _ h => h) (Or.inl ⟨by rfl, ?_⟩) ?_ ?_
          rotate_left
          · intro w'
            go_simp
            with_reducible rfl
          rotate_left
          · simp only [Act.put, List.setIfInBounds_toArray, List.set_cons_zero, List.set_cons_succ, i64_w, i32_w]
            rfl
          refine pure_ (i := 11) (N := some 93) (v := ?_) (a' := ?_) #[true, true, true, true, true, true, true, true, true, true, true, true, false] rfl rfl (by kernel_rfl) (fun _ _ _ h => h) (Or.inl ⟨by rfl, ?_⟩) ?_ ?_
          rotate_left
          · intro w'
            go_simp
            with_reducible rfl
          rotate_left
          · simp only [Act.put, List.setIfInBounds_toArray, List.set_cons_zero, List.set_cons_succ, i64_w, i32_w]
            rfl
          refine last_ (i := 12) (N := some 94) #[true, true, true, true, true, true, true, true, true, true, true, true, true] rfl rfl (by kernel_rfl) (by decide) (fun K hK => ?_)
          refine goesC_ hf hnm hbd #[.int .i64 i, .int .i64 0, T3.v ⟨setb d i, i, wrap64 (ts - 1)⟩] caps _ (by rfl) rfl rfl rfl (by simp only [List.map_toArray, List.map_cons, List.map_nil, Act.eval]; go_simp; rfl) rfl ?_
          rw [hwr]
          refine (HDO.out (itms l fin ⟨d, tl, ts⟩ i ++ [⟨i, rd (rd_Ls2 l tl) i, ⟨setb d i, i, ts⟩⟩]) ⟨i, 0, ⟨setb d i, i, ts - 1⟩⟩ post _ hS2.out (HST.out _ _ _ HI3.out (Below.drew (Below.refl _ _)))).mono ?_
          rintro e w4 ⟨rfl, hI4, hF4⟩
          refine ⟨_, rfl, ?_⟩
          have HI4 := Aside0.mk hI4
          have HF4 := Aside0.mk hF4
          clear hI4 hF4
          refine hK.out _ _ ?_
          clear hK K
          refine norm_ (a' := ?_) ?_ ?_
          rotate_left
          · show Act.put _ (some 94) _ = _
            simp only [Act.put, List.setIfInBounds_toArray, List.set_cons_zero, List.set_cons_succ, i64_w, i32_w]
            rfl
          refine done_ (by kernel_rfl) ?_

          have HFQ := Aside0.mk ((Fr.of_below (Below.drew (Below.refl w3.heap.size w3))).trans HF4.out)
          have BK4 := Aside0.mk (HFQ.out.blk BK3.out hgt.out)
          have HFR4 := Aside0.mk (HFR3.out.trans HFQ.out)
          clear hc0 hc1 hc2 hd0 hd1 hd2 HI3 HFR3 BK3 HF4 HFQ
          go_wp2
          exact ⟨⟨i + 1, by go_num, by omega, ⟨by rw [hE2.out]; exact HI4.out⟩, ⟨HFR4.out⟩, ⟨BK4.out⟩⟩, by simp [intOf]; omega⟩
        · have hts1 : ¬ 0 < ts := by
            have h : ts ≤ 0 := by assumption
            omega
          have hE2 : Aside0 (itms l fin ⟨d, tl, ts⟩ (i + 1) = itms l fin ⟨d, tl, ts⟩ i ++ [⟨i, rd (rd_Ls2 l tl) i, ⟨setb d i, i, ts⟩⟩]) := by
            refine ⟨?_⟩
            have e := hE.out
            rw [if_neg hts1] at e
            exact e
          exact ⟨⟨i + 1, by go_num, by omega, ⟨by rw [hE2.out]; exact HI3.out⟩, ⟨HFR3.out⟩, ⟨BK3.out⟩⟩, by simp [intOf]; omega⟩
    · obtain rfl : i = l.length := by omega
      go_wp2
      first | go_end0 | ((try simp only [Exit.inBlock, Exit.then]); refine bodyPost_ret (results_none rfl _ _ _) rfl ?_) | (refine ⟨rfl, _, results_none rfl _ _ _, ?_⟩)
      exact ⟨rfl, HI.out, HFR.out⟩
end Go.Proofs.Ytaapbnhggfmlpaa.P
end
section
set_option linter.unusedVariables false
namespace Go.Proofs.Ytaapbnhggfmlpaa.P
open Go.RowKit Go.Proofs.YtaapbnhggfmlpaaW.PrintWords Go.Proofs.YtaapbnhggfmlpaaW.PrintLast Go.Proofs.YtaapbnhggfmlpaaW.PrintMore
open Go.Proofs.Ytaapbnhggfmlpaa.M Go.Proofs.Ytaapbnhggfmlpaa.A
structure PW (w0 : World) (gp gb gm : Nat) (A : Option Addr) (c : Nat) (l : List (List Int)) (fin : Int) (w : World) : Prop where
  bl : Below w0.heap.size w0 w
  ge : w0.heap.size ≤ gm
  np : gp ≠ gm
  nb : gb ≠ gm
  p : w.heap[gp]? = some (.cells #[.pointer (some ⟨gb, 0, none⟩), .int .i64 fin, .map (some gm)] 113 (0, 0))
  b : w.heap[gb]? = some (.cells #[.slice A l.length c] 44 (0, 0))
  r : Kd.C (Kd.slice 2 (Kd.int .i64)) w0 A l.length l
section
variable {w0 w w' : World} {gp gb gm : Nat} {A : Option Addr} {c : Nat} {l : List (List Int)} {fin : Int}
theorem PW.pl (h : PW w0 gp gb gm A c l fin w) : PL w gp gb gm A c l fin := ⟨h.p, h.b, Kd.C_below h.r h.bl⟩
/-- Only blocks of F, of which none is old nor the planner's, turn. -/
theorem PW.fr {F : Nat → Prop} (h : PW w0 gp gb gm A c l fin w) (hf : Fr F w w') (hF : ∀ k, F k → w0.heap.size ≤ k) (hp : ¬ F gp) (hb : ¬ F gb) : PW w0 gp gb gm A c l fin w' :=
  ⟨Fr.below h.bl hf h.bl.size hF, h.ge, h.np, h.nb, hf.blk h.p hp, hf.blk h.b hb, h.r⟩
theorem PW.below (h : PW w0 gp gb gm A c l fin w) (hb : Below w.heap.size w w') : PW w0 gp gb gm A c l fin w' :=
  h.fr (F := fun _ => False) (Fr.of_below hb) (fun _ hf => hf.elim) (fun hf => hf) (fun hf => hf)
end
def Mem (l : List (List Int)) (fin : Int) (gm : Nat) (w : World) : Prop :=
  ∃ (ks : List T3) (tb : T3 → Option Int), ks.Nodup ∧ (∀ t, tb t = none ↔ t ∉ ks) ∧ (∀ t ∈ ks, Tk l.length t ∧ tb t = some (lf l fin t)) ∧ TM w gm ks.length tb
section
variable {w w' : World} {gm : Nat} {l : List (List Int)} {fin : Int}
theorem Mem.lt (h : Mem l fin gm w) : gm < w.heap.size := by
  obtain ⟨ks, tb, _, _, _, h⟩ := h
  exact h.lt
theorem Mem.heap (h : Mem l fin gm w) (he : w'.heap[gm]? = w.heap[gm]?) : Mem l fin gm w' := by
  obtain ⟨ks, tb, a, b, c, h⟩ := h
  exact ⟨ks, tb, a, b, c, h.heap he⟩
theorem Mem.below (h : Mem l fin gm w) (hb : Below w.heap.size w w') : Mem l fin gm w' := h.heap (hb.block _ h.lt)
theorem Mem.made (w : World) (l : List (List Int)) (fin : Int) : Mem l fin w.heap.size (w.alloc (.map #[] 0)) :=
  ⟨[], fun _ => none, List.nodup_nil, fun t => by simp, fun t (ht : t ∈ ([] : List T3)) => absurd ht (by simp), TM.made w⟩
theorem Mem.fr {F : Nat → Prop} (h : Mem l fin gm w) (hf : Fr F w w') (hF : ¬ F gm) : Mem l fin gm w' := h.heap (hf.block _ h.lt hF)
end
theorem Fr.set_ {F : Nat → Prop} {w w1 : World} (h : Fr F w w1) {a : Addr} (ha : F a.block) (u : Value) : Fr F w (w1.setCell a u) := by
  have hb := Below.setCell (B := 0) (Below.refl 0 w1) (p := a) (Nat.zero_le _) u
  exact h.trans ⟨hb.os, hb.tape, hb.output, hb.size, fun i hi hn => Below.heap_setCell w1 a u i (fun e => hn (e ▸ ha))⟩
/-- Distinct tasks are few. -/
theorem nat_few : ∀ (N : Nat) (xs : List Nat), xs.Nodup → (∀ x ∈ xs, x < N) → xs.length ≤ N := by
  intro N
  induction N with
  | zero =>
    intro xs _ h
    cases xs with
    | nil => simp
    | cons x xs => exact absurd (h x (List.mem_cons_self ..)) (by omega)
  | succ N ih =>
    intro xs hd h
    have h1 : (xs.erase N).length ≤ N := ih (xs.erase N) (hd.erase N) fun x hx => by
      have h2 := h x (List.mem_of_mem_erase hx)
      have h3 : x ≠ N := fun e => by
        subst e
        exact (hd.not_mem_erase) hx
      omega
    have := List.length_erase (a := N) (l := xs)
    split at this <;> omega
theorem tk_few {n : Nat} (hn : n ≤ 9) {ks : List T3} (hd : ks.Nodup) (h : ∀ t ∈ ks, Tk n t) : ks.length ≤ 51200 := by
  have inj : ∀ t ∈ ks, ∀ u ∈ ks, (t.d.toNat * 100 + t.l.toNat * 10 + t.s.toNat) = (u.d.toNat * 100 + u.l.toNat * 10 + u.s.toNat) → t = u := by
    intro t ht u hu e
    obtain ⟨D, L, S, rfl, h1, h2, h3⟩ := h t ht
    obtain ⟨D', L', S', rfl, h1', h2', h3'⟩ := h u hu
    simp only [Int.toNat_natCast] at e
    have e1 : D = D' := by omega
    have e2 : L = L' := by omega
    have e3 : S = S' := by omega
    subst e1 e2 e3
    rfl
  have := nat_few 51200 (ks.map fun t => t.d.toNat * 100 + t.l.toNat * 10 + t.s.toNat) (by
    unfold List.Nodup
    rw [List.pairwise_map]
    refine (List.Pairwise.and_mem.1 hd).imp ?_
    rintro t u ⟨ht, hu, hne⟩ e
    exact hne (inj t ht u hu e)) (by
    intro x hx
    obtain ⟨t, ht, rfl⟩ := List.mem_map.1 hx
    obtain ⟨D, L, S, rfl, h1, h2, h3⟩ := h t ht
    have := pow9 hn
    simp only [Int.toNat_natCast]
    omega)
  simpa using this
end Go.Proofs.Ytaapbnhggfmlpaa.P
end
section
set_option linter.unusedVariables false
set_option linter.unusedSimpArgs false
namespace Go.Proofs.Ytaapbnhggfmlpaa.P
open Go.RowKit Go.Proofs.YtaapbnhggfmlpaaW.PrintWords Go.Proofs.YtaapbnhggfmlpaaW.PrintLast Go.Proofs.YtaapbnhggfmlpaaW.PrintMore
open Go.Proofs.Ytaapbnhggfmlpaa.M Go.Proofs.Ytaapbnhggfmlpaa.A
set_option maxHeartbeats 2000000 in
set_option maxRecDepth 100000 in
theorem left1_ (w0 : World) (gp gb gm c1 c2 : Nat) (A : Option Addr) (c : Nat) (l : List (List Int)) (fin best : Int) (x : Itm) (w : World)
    (hL : ∀ w', PW w0 gp gb gm A c l fin w' → Mem l fin gm w' → Calls Try.prog 123 #[.pointer (some ⟨gp, 0, none⟩), x.t.v] w' fun e w'' => e = .returned (.int .i64 (lf l fin x.t)) ∧ Mem l fin gm w'' ∧ Fr (· = gm) w' w'')
    (hW : PW w0 gp gb gm A c l fin w) (hM : Mem l fin gm w) (h1 : w.heap[c1]? = some (.cells #[.pointer (some ⟨gp, 0, none⟩)] 147 (0, 0))) (h2 : w.heap[c2]? = some (.cells #[.int .i64 best] 2 (0, 0)))
    (n1 : c1 ≠ gm) (n2 : c2 ≠ gm) (n12 : c1 ≠ c2) (m2 : w0.heap.size ≤ c2) (np : c2 ≠ gp) (nb : c2 ≠ gb) :
    Calls Try.prog 151 (#[.int .i64 x.w, .int .i64 x.c, x.t.v] ++ #[.pointer (some ⟨c1, 0, none⟩), .pointer (some ⟨c2, 0, none⟩)]) w fun e w' => e = .returned (.tuple #[]) ∧ Mem l fin gm w' ∧ w'.heap[c2]? = some (.cells #[.int .i64 (stepF (lf l fin) best x)] 2 (0, 0)) ∧ Fr (fun k => k = gm ∨ k = c2) w w' := by
  show Calls Try.prog 151 #[.int .i64 x.w, .int .i64 x.c, x.t.v, .pointer (some ⟨c1, 0, none⟩), .pointer (some ⟨c2, 0, none⟩)] w _
  have HL := Aside0.mk hL
  have HW := Aside0.mk hW
  have HM := Aside0.mk hM
  have H1 := Aside0.mk h1
  have H2 := Aside0.mk h2
  have N1 := Aside0.mk n1
  have N2 := Aside0.mk n2
  have N12 := Aside0.mk n12
  clear hL hW hM h1 h2 n1 n2 n12
  have hu150 := Try.underlying150
  obtain ⟨xw, xc, d, tl, ts⟩ := x
  go_enter Try.func151, Try.ntmps151
  go_wp2_with (first
      | ((with_reducible refine gate_dst (N := 7) rfl ?_); refine box_event ?hg (N := 7) ?hd (cs := #[.int .i64 d, .int .i64 tl, .int .i64 ts]) (t := 150) ?hr ?_; (case hd => rfl); (case hg => rfl); (case hr => first | (go_simp; done) | (go_simp; rfl)); intro gt hg w2 hbox hb; have HFR := Aside0.mk (Fr.of_below (F := fun k => k = gm ∨ k = c2) hb); have n1_ := Aside0.mk (blk_below H1.out hb); have n2_ := Aside0.mk (blk_below H2.out hb); have n3_ := Aside0.mk (HW.out.below hb); have n4_ := Aside0.mk (HM.out.below hb); clear H1 H2 HW HM hg; have H1 := n1_; have H2 := n2_; have HW := n3_; have HM := n4_; clear n1_ n2_ n3_ n4_; have hc1 := (blk_cell H1.out 0).trans rfl; have hd0 := (blk_cell hbox 0).trans rfl; have hd1 := (blk_cell hbox 1).trans rfl; have hd2 := (blk_cell hbox 2).trans rfl; clear hbox hb)
      | (go_at_call 123; (with_reducible refine (HL.out _ ?s1 ?s2).mono ?_); (case s1 => exact HW.out); (case s2 => exact HM.out); rintro e w3 ⟨rfl, hM3, hF3⟩; have HM3 := Aside0.mk hM3; have HF3 := Aside0.mk hF3; have H2' := Aside0.mk (hF3.blk H2.out N2.out); clear hM3 hF3 hc1 hd0 hd1 hd2; have hc2 := (blk_cell H2'.out 0).trans rfl; have hf2 := blk_frozen H2'.out 0))
  all_goals
    first | go_end0 | ((try simp only [Exit.inBlock, Exit.then]); refine bodyPost_ret (results_none rfl _ _ _) rfl ?_)
    have hFq := Fr.then_ HFR.out HF3.out (fun i hi => .inl (.inl hi))
    have hgc := HM3.out
    have hne := N2.out
    first
      | (have e : stepF (lf l fin) best ⟨xw, xc, ⟨d, tl, ts⟩⟩ = wrap64 (lf l fin ⟨d, tl, ts⟩ + xc) := if_pos ⟨by assumption, by first | assumption | exact .inl (by assumption)⟩
         exact ⟨rfl, hgc.heap (Below.heap_setCell _ _ _ _ (fun e => hne e.symm)), by rw [e]; exact blk_put H2'.out 0 _ rfl, Fr.set_ hFq (.inr rfl) _⟩)
      | (have e : stepF (lf l fin) best ⟨xw, xc, ⟨d, tl, ts⟩⟩ = best := if_neg (by rintro ⟨h0, h⟩; simp only at h0 h; omega)
         exact ⟨rfl, hgc, by rw [e]; exact H2'.out, hFq⟩)
end Go.Proofs.Ytaapbnhggfmlpaa.P
end
section
set_option linter.unusedVariables false
namespace Go.Proofs.Ytaapbnhggfmlpaa.M
open Go.Maps Go.RowKit Go.ChangeMaps
theorem TM.put_any {w : World} {b n : Nat} {f : T3 → Option Int} (h : TM w b n f) (hn : n < maxLen) {t : T3} (ht : t.ok) {x : Int} (hx : (Lit.int .i64 x).wf = true) (m : Nat) (hm : (f t).isSome = true ∧ n ≤ m ∨ n + 1 ≤ m) :
    ∃ w', (Instr.mapUpdate 111 (.map (some b)) t.v (.int .i64 x)).run Try.prog w = .ok () w' ∧ TM w' b m (fun u => if u = t then some x else f u) ∧ w.mapTurned w' b := by
  rcases hm with ⟨hf, hm⟩ | hm
  · obtain ⟨D, ho, hat⟩ := h
    obtain ⟨w', hrun, h1, h2⟩ := ho.store law150 Try.underlying111 hn (key_of t ht) (plainElem_int Try.underlying2 hx)
    have hT := ho.tidy law150
    have hs : Maps.size (D.put (tk t) (.lit (.int .i64 x))) ≤ m := by
      have hl := ho.size_le
      obtain ⟨es, rfl⟩ := ho.isMap
      have hh : Maps.has (.map es) (tk t) = true := by rw [(hat t ht).1, hf]
      rw [Maps.has_eq] at hh
      obtain ⟨p, hp, hk⟩ := List.any_eq_true.1 hh
      rw [DataW.put_eq, Maps.size_eq]
      unfold putKey
      rw [length_insert]
      have hlt : (es.filter (notKey (tk t))).length < es.length := by
        rcases Nat.lt_or_eq_of_le (List.length_filter_le (notKey (tk t)) es) with h | h
        · exact h
        · have := List.length_filter_eq_length_iff.1 h p hp
          simp [notKey, hk] at this
      rw [Maps.size_eq] at hl
      omega
    obtain ⟨es', clock', hb', F', hs', hD'⟩ := h1
    refine ⟨w', hrun, ⟨_, ⟨es', clock', hb', F', ?_, hD'⟩, fun u hu => ?_⟩, h2⟩
    · rw [hD', Maps.size_eq, length_read] at hs
      exact hs
    · by_cases e : u = t
      · subst e
        exact ⟨by rw [has_put_same hT.isMap (tk_is _)]; simp, by rw [atKey_put_same hT.isMap (tk_is _)]; simp⟩
      · have ne : tk u ≠ tk t := fun e' => e (tk_inj hu ht e')
        exact ⟨by rw [has_put_other ne, (hat u hu).1]; simp [e], by rw [atKey_put_other ne, (hat u hu).2]; simp [e]⟩
  · obtain ⟨w', hrun, ⟨D, h1, h3⟩, h2⟩ := h.put hn ht hx
    exact ⟨w', hrun, ⟨D, h1.mono hm, h3⟩, h2⟩
end Go.Proofs.Ytaapbnhggfmlpaa.M
namespace Go.Proofs.Ytaapbnhggfmlpaa.P
open Go.RowKit Go.Proofs.Ytaapbnhggfmlpaa.M Go.Proofs.Ytaapbnhggfmlpaa.A
theorem Mem.put {w : World} {gm : Nat} {l : List (List Int)} {fin : Int} (hn : l.length ≤ 9) (h : Mem l fin gm w) {t : T3} (ht : Tk l.length t) (hx : (Lit.int .i64 (lf l fin t)).wf = true) :
    ∃ w', (Instr.mapUpdate 111 (.map (some gm)) t.v (.int .i64 (lf l fin t))).run Try.prog w = .ok () w' ∧ Mem l fin gm w' ∧ Fr (· = gm) w w' := by
  obtain ⟨ks, tb, hnd, hks, hkt, hTM⟩ := h
  have hfew := tk_few hn hnd fun u hu => (hkt u hu).1
  have hlt : ks.length < maxLen := Nat.lt_of_le_of_lt hfew (by decide)
  by_cases hm : t ∈ ks
  · obtain ⟨w', hrun, h1, h2⟩ := hTM.put_any hlt (ht.ok hn) hx ks.length (.inl ⟨by rw [(hkt t hm).2]; rfl, Nat.le_refl _⟩)
    refine ⟨w', hrun, ⟨ks, _, hnd, fun u => ?_, fun u hu => ⟨(hkt u hu).1, ?_⟩, h1⟩, Fr.of_grown h2.grown fun k e => (Option.some.inj e).symm⟩
    · by_cases e : u = t
      · simp [e, hm]
      · simp only [if_neg e]
        exact hks u
    · by_cases e : u = t
      · simp [e]
      · simp only [if_neg e]
        exact (hkt u hu).2
  · obtain ⟨w', hrun, h1, h2⟩ := hTM.put_any hlt (ht.ok hn) hx (ks.length + 1) (.inr (Nat.le_refl _))
    refine ⟨w', hrun, ⟨t :: ks, _, List.nodup_cons.2 ⟨hm, hnd⟩, fun u => ?_, fun u hu => ?_, h1⟩, Fr.of_grown h2.grown fun k e => (Option.some.inj e).symm⟩
    · by_cases e : u = t
      · simp [e]
      · simp only [List.mem_cons, e, false_or, if_false]
        exact hks u
    · by_cases e : u = t
      · subst e
        exact ⟨ht, by simp⟩
      · have hu' : u ∈ ks := (List.mem_cons.1 hu).resolve_left e
        simp only [if_neg e]
        exact hkt u hu'
end Go.Proofs.Ytaapbnhggfmlpaa.P
end
section
set_option linter.unusedVariables false
set_option linter.unusedSimpArgs false
namespace Go.Proofs.Ytaapbnhggfmlpaa.P
open Go.RowKit Go.Proofs.YtaapbnhggfmlpaaW.PrintWords Go.Proofs.YtaapbnhggfmlpaaW.PrintLast Go.Proofs.YtaapbnhggfmlpaaW.PrintMore
open Go.Proofs.Ytaapbnhggfmlpaa.M Go.Proofs.Ytaapbnhggfmlpaa.A
set_option maxHeartbeats 2000000 in
set_option maxRecDepth 100000 in
theorem left_ (w0 : World) (gp gb gm : Nat) (A : Option Addr) (c : Nat) (l : List (List Int)) (fin : Int) (hn : l.length ≤ 9) (hrow : ∀ j : Nat, j < l.length → (rd_Ls2 l j).length = l.length) :
    ∀ (k : Nat) (t : T3) (w : World), tcnt l.length t < k → Tk l.length t → PW w0 gp gb gm A c l fin w → Mem l fin gm w →
      Calls Try.prog 123 #[.pointer (some ⟨gp, 0, none⟩), t.v] w fun e w' => e = .returned (.int .i64 (lf l fin t)) ∧ Mem l fin gm w' ∧ Fr (· = gm) w w' := by
  intro k
  induction k with
  | zero => exact fun t w h => absurd h (by omega)
  | succ k ih =>
    intro t w hk hT hW hM
    have IH := Aside0.mk ih
    have HK := Aside0.mk hk
    have HT := Aside0.mk hT
    have HW := Aside0.mk hW
    have HM := Aside0.mk hM
    have HROW := Aside0.mk hrow
    clear ih hk hT hW hM hrow
    have hu150 := Try.underlying150
    have hu147 := Try.underlying147
    have hu113 := Try.underlying113
    have hu44 := Try.underlying44
    obtain ⟨d, tl0, ts⟩ := t
    obtain ⟨tl, htl, hts, rfl⟩ : ∃ tl : Nat, tl < l.length ∧ (0 ≤ ts ∧ ts ≤ 9) ∧ tl0 = (tl : Int) := by
      obtain ⟨D, L, S, e, h1, h2, h3⟩ := HT.out
      cases e
      exact ⟨L, h2, by omega, rfl⟩
    obtain ⟨hts0, hts9⟩ := hts
    go_enter Try.func123, Try.ntmps123
    go_wp2_with (first
      | ((with_reducible refine gate_dst (N := 2) rfl ?_); refine box_event ?hg (N := 2) ?hd (cs := #[.pointer (some ⟨gp, 0, none⟩)]) (t := 147) ?hr ?_; (case hd => rfl); (case hg => rfl); (case hr => first | (go_simp; done) | (go_simp; rfl)); intro g1 hg w2 hbox hb; have NE := Aside0.mk (show g1 ≠ gm from fun e => by have := HM.out.lt; omega); have GE1 := Aside0.mk (show w.heap.size ≤ g1 by omega); have HFR := Aside0.mk (Fr.of_below (F := (· = gm)) hb); have H1 := Aside0.mk hbox; have n3_ := Aside0.mk (HW.out.below hb); have n4_ := Aside0.mk (HM.out.below hb); clear HW HM hg hbox hb; have HW := n3_; have HM := n4_; clear n3_ n4_)
      | ((with_reducible refine gate_dst (N := 3) rfl ?_); refine box_event ?hg (N := 3) ?hd (cs := #[.int .i64 d, .int .i64 tl, .int .i64 ts]) (t := 150) ?hr ?_; (case hd => rfl); (case hg => rfl); (case hr => first | (go_simp; done) | (go_simp; rfl)); intro gt hg w3 hbox hb; have NET := Aside0.mk (show gt ≠ gm from fun e => by have := HM.out.lt; omega); have n5_ := Aside0.mk (HFR.out.trans (Fr.of_below (F := (· = gm)) hb)); have n1_ := Aside0.mk (blk_below H1.out hb); have H2 := Aside0.mk hbox; have n3_ := Aside0.mk (HW.out.below hb); have n4_ := Aside0.mk (HM.out.below hb); clear H1 HFR HW HM hg hb hbox; have H1 := n1_; have HFR := n5_; have HW := n3_; have HM := n4_; clear n1_ n3_ n4_ n5_))
    obtain ⟨hc0, hc1, hc2, hd0, hd1, hd2⟩ := Rd.mk_ HW.out.pl H2.out
    have hc3 : w3.cell? ⟨gp, 2, none⟩ = some (.map (some gm)) := (blk_cell HW.out.p 2).trans rfl
    have hg1 := (blk_cell H1.out 0).trans rfl
    go_quiet (fail)
    go_wp2
    · have hfull : d = full l.length := by
        have h : (d == wrap64 (wrap64 (2 ^ l.length) - 1)) = true := by assumption
        simpa [full] using h
      have hE := Aside0.mk (lf_full (l := l) (fin := fin) (t := ⟨d, tl, ts⟩) hfull)
      clear hfull
      by_cases hs : 0 < ts
      · have hsb : decide (0 < ts) = true := decide_eq_true hs
        go_quiet (fail)
        go_wp2
        first | go_ret | go_ret2
        have e := hE.out.trans (if_pos (.inl hs))
        rw [e]
        exact ⟨rfl, HM.out.below (by repeat first | exact Below.refl _ _ | refine pw_below_drewN ?_ _ | refine Below.drew ?_), HFR.out.trans (Fr.of_below (by repeat first | exact Below.refl _ _ | refine pw_below_drewN ?_ _ | refine Below.drew ?_))⟩
      · have hsb : decide (0 < ts) = false := decide_eq_false hs
        by_cases hf : 0 ≤ fin
        · have hfb : decide (0 ≤ fin) = true := decide_eq_true hf
          go_quiet (fail)
          go_wp2
          · have hne : ((tl : Int) != fin) = true := by assumption
            first | go_ret | go_ret2
            have e := hE.out.trans (if_pos (.inr ⟨hf, by simpa using hne⟩))
            rw [e]
            exact ⟨rfl, HM.out.below (by repeat first | exact Below.refl _ _ | refine pw_below_drewN ?_ _ | refine Below.drew ?_), HFR.out.trans (Fr.of_below (by repeat first | exact Below.refl _ _ | refine pw_below_drewN ?_ _ | refine Below.drew ?_))⟩
          · have hne : ((tl : Int) != fin) = false := by assumption
            first | go_ret | go_ret2
            have e := hE.out.trans (if_neg (by
              rintro (h | ⟨_, h⟩)
              · simp only at h; omega
              · exact h (by simpa using hne)))
            rw [e]
            exact ⟨rfl, HM.out.below (by repeat first | exact Below.refl _ _ | refine pw_below_drewN ?_ _ | refine Below.drew ?_), HFR.out.trans (Fr.of_below (by repeat first | exact Below.refl _ _ | refine pw_below_drewN ?_ _ | refine Below.drew ?_))⟩
        · have hfb : decide (0 ≤ fin) = false := decide_eq_false hf
          go_quiet (fail)
          go_wp2
          first | go_ret | go_ret2
          have e := hE.out.trans (if_neg (by rintro (h | ⟨h, _⟩) <;> (try simp only at h) <;> omega))
          rw [e]
          exact ⟨rfl, HM.out.below (by repeat first | exact Below.refl _ _ | refine pw_below_drewN ?_ _ | refine Below.drew ?_), HFR.out.trans (Fr.of_below (by repeat first | exact Below.refl _ _ | refine pw_below_drewN ?_ _ | refine Below.drew ?_))⟩
    · have hnf : d ≠ full l.length := by
        have h : (d == wrap64 (wrap64 (2 ^ l.length) - 1)) = false := by assumption
        simpa [full] using h
      obtain ⟨ks, tb, hnd, hks, hkt, hTM⟩ := HM.out
      cases htb : tb ⟨d, tl, ts⟩ with
      | some v =>
        have hlk : ∀ m, (Instr.lookup 111 (.map (some gm)) (.agg #[.int .i64 d, .int .i64 tl, .int .i64 ts]) true).run Try.prog (w3.drewN m).drew = .ok (.tuple #[.int .i64 v, .bool true]) (w3.drewN m).drew := by
          intro m
          have h := (hTM.drewN m).drew.look (HT.out.ok hn)
          rw [htb] at h
          exact h
        refine start_ (n := 11) (S := fun w' => w'.cell? ⟨g1, 0, none⟩ = some (.pointer (some ⟨gp, 0, none⟩)) ∧ w'.cell? ⟨gp, 2, none⟩ = some (.map (some gm)) ∧ w'.cell? ⟨gt, 0, none⟩ = some (.int .i64 d) ∧ w'.cell? ⟨gt, 1, none⟩ = some (.int .i64 tl) ∧ w'.cell? ⟨gt, 2, none⟩ = some (.int .i64 ts) ∧ (Instr.lookup 111 (.map (some gm)) (.agg #[.int .i64 d, .int .i64 tl, .int .i64 ts]) true).run Try.prog w' = .ok (.tuple #[.int .i64 v, .bool true]) w') (ds := []) #[false, false, false, false, false, false, false, false, false, false, false] (by kernel_rfl) rfl rfl ⟨hg1, hc3, hd0, hd1, hd2, hlk _⟩ (fun hHeld => ?_)
        refine take_ (i := 0) (N := some 41) (v := ?_) (a' := ?_) #[true, false, false, false, false, false, false, false, false, false, false] rfl rfl (by kernel_rfl) (fun _ _ _ h => h) (Or.inl ⟨by rfl, ?_⟩) hHeld ?_ ?_
        rotate_left
        · rintro w' ⟨s0, s1, s2, s3, s4, s5⟩
          go_simp
          with_reducible rfl
        rotate_left
        · simp only [Act.put, List.setIfInBounds_toArray, List.set_cons_zero, List.set_cons_succ, i64_w, i32_w]
          rfl
        refine pure_ (i := 1) (N := some 42) (v := ?_) (a' := ?_) #[true, true, false, false, false, false, false, false, false, false, false] rfl rfl (by kernel_rfl) (fun _ _ _ h => h) (Or.inl ⟨by rfl, ?_⟩) ?_ ?_
        rotate_left
        · intro w'
          go_simp
          with_reducible rfl
        rotate_left
        · simp only [Act.put, List.setIfInBounds_toArray, List.set_cons_zero, List.set_cons_succ, i64_w, i32_w]
          rfl
        refine pure_ (i := 2) (N := some 43) (v := ?_) (a' := ?_) #[true, true, true, false, false, false, false, false, false, false, false] rfl rfl (by kernel_rfl) (fun _ _ _ h => h) (Or.inl ⟨by rfl, ?_⟩) ?_ ?_
        rotate_left
        · intro w'
          go_simp
          with_reducible rfl
        rotate_left
        · simp only [Act.put, List.setIfInBounds_toArray, List.set_cons_zero, List.set_cons_succ, i64_w, i32_w]
          rfl
        refine take_ (i := 3) (N := some 44) (v := ?_) (a' := ?_) #[true, true, true, true, false, false, false, false, false, false, false] rfl rfl (by kernel_rfl) (fun _ _ _ h => h) (Or.inl ⟨by rfl, ?_⟩) hHeld ?_ ?_
        rotate_left
        · rintro w' ⟨s0, s1, s2, s3, s4, s5⟩
          go_simp
          with_reducible rfl
        rotate_left
        · simp only [Act.put, List.setIfInBounds_toArray, List.set_cons_zero, List.set_cons_succ, i64_w, i32_w]
          rfl
        refine take_ (i := 4) (N := some 45) (v := ?_) (a' := ?_) #[true, true, true, true, true, false, false, false, false, false, false] rfl rfl (by kernel_rfl) (fun _ _ _ h => h) (Or.inl ⟨by rfl, ?_⟩) hHeld ?_ ?_
        rotate_left
        · rintro w' ⟨s0, s1, s2, s3, s4, s5⟩
          go_simp
          with_reducible rfl
        rotate_left
        · simp only [Act.put, List.setIfInBounds_toArray, List.set_cons_zero, List.set_cons_succ, i64_w, i32_w]
          rfl
        refine take_ (i := 5) (N := some 46) (v := ?_) (a' := ?_) #[true, true, true, true, true, true, false, false, false, false, false] rfl rfl (by kernel_rfl) (fun _ _ _ h => h) (Or.inl ⟨by rfl, ?_⟩) hHeld ?_ ?_
        rotate_left
        · rintro w' ⟨s0, s1, s2, s3, s4, s5⟩
          go_simp
          with_reducible rfl
        rotate_left
        · simp only [Act.put, List.setIfInBounds_toArray, List.set_cons_zero, List.set_cons_succ, i64_w, i32_w]
          rfl
        refine pure_ (i := 6) (N := some 40) (v := ?_) (a' := ?_) #[true, true, true, true, true, true, true, false, false, false, false] rfl rfl (by kernel_rfl) (fun _ _ _ h => h) (Or.inl ⟨by rfl, ?_⟩) ?_ ?_
        rotate_left
        · intro w'
          go_simp
          with_reducible rfl
        rotate_left
        · simp only [Act.put, List.setIfInBounds_toArray, List.set_cons_zero, List.set_cons_succ, i64_w, i32_w]
          rfl
        refine pure_ (i := 7) (N := some 47) (v := ?_) (a' := ?_) #[true, true, true, true, true, true, true, true, false, false, false] rfl rfl (by kernel_rfl) (fun _ _ _ h => h) (Or.inl ⟨by rfl, ?_⟩) ?_ ?_
        rotate_left
        · intro w'
          go_simp
          with_reducible rfl
        rotate_left
        · simp only [Act.put, List.setIfInBounds_toArray, List.set_cons_zero, List.set_cons_succ, i64_w, i32_w]
          rfl
        refine pure_ (i := 8) (N := some 48) (v := ?_) (a' := ?_) #[true, true, true, true, true, true, true, true, true, false, false] rfl rfl (by kernel_rfl) (fun _ _ _ h => h) (Or.inl ⟨by rfl, ?_⟩) ?_ ?_
        rotate_left
        · intro w'
          go_simp
          with_reducible rfl
        rotate_left
        · simp only [Act.put, List.setIfInBounds_toArray, List.set_cons_zero, List.set_cons_succ, i64_w, i32_w]
          rfl
        refine pure_ (i := 9) (N := some 5) (v := ?_) (a' := ?_) #[true, true, true, true, true, true, true, true, true, true, false] rfl rfl (by kernel_rfl) (fun _ _ _ h => h) (Or.inl ⟨by rfl, ?_⟩) ?_ ?_
        rotate_left
        · intro w'
          go_simp
          with_reducible rfl
        rotate_left
        · simp only [Act.put, List.setIfInBounds_toArray, List.set_cons_zero, List.set_cons_succ, i64_w, i32_w]
          rfl
        refine pure_ (i := 10) (N := some 6) (v := ?_) (a' := ?_) #[true, true, true, true, true, true, true, true, true, true, true] rfl rfl (by kernel_rfl) (fun _ _ _ h => h) (Or.inl ⟨by rfl, ?_⟩) ?_ ?_
        rotate_left
        · intro w'
          go_simp
          with_reducible rfl
        rotate_left
        · simp only [Act.put, List.setIfInBounds_toArray, List.set_cons_zero, List.set_cons_succ, i64_w, i32_w]
          rfl
        refine done_ (by kernel_rfl) ?_

        go_wp2
        first | go_ret | go_ret2
        have e : v = lf l fin ⟨d, tl, ts⟩ := by
          have hmem : (⟨d, tl, ts⟩ : T3) ∈ ks := by
            by_cases hm : (⟨d, tl, ts⟩ : T3) ∈ ks
            · exact hm
            · exact absurd ((hks _).2 hm) (by rw [htb]; simp)
          have h := (hkt _ hmem).2
          rw [htb] at h
          exact Option.some.inj h
        rw [e]
        exact ⟨rfl, HM.out.below (by repeat first | exact Below.refl _ _ | refine pw_below_drewN ?_ _ | refine Below.drew ?_), HFR.out.trans (Fr.of_below (by repeat first | exact Below.refl _ _ | refine pw_below_drewN ?_ _ | refine Below.drew ?_))⟩
      | none =>
        have hlk : ∀ m, (Instr.lookup 111 (.map (some gm)) (.agg #[.int .i64 d, .int .i64 tl, .int .i64 ts]) true).run Try.prog (w3.drewN m).drew = .ok (.tuple #[.int .i64 0, .bool false]) (w3.drewN m).drew := by
          intro m
          have h := (hTM.drewN m).drew.look (HT.out.ok hn)
          rw [htb] at h
          exact h
        refine start_ (n := 11) (S := fun w' => w'.cell? ⟨g1, 0, none⟩ = some (.pointer (some ⟨gp, 0, none⟩)) ∧ w'.cell? ⟨gp, 2, none⟩ = some (.map (some gm)) ∧ w'.cell? ⟨gt, 0, none⟩ = some (.int .i64 d) ∧ w'.cell? ⟨gt, 1, none⟩ = some (.int .i64 tl) ∧ w'.cell? ⟨gt, 2, none⟩ = some (.int .i64 ts) ∧ (Instr.lookup 111 (.map (some gm)) (.agg #[.int .i64 d, .int .i64 tl, .int .i64 ts]) true).run Try.prog w' = .ok (.tuple #[.int .i64 0, .bool false]) w') (ds := []) #[false, false, false, false, false, false, false, false, false, false, false] (by kernel_rfl) rfl rfl ⟨hg1, hc3, hd0, hd1, hd2, hlk _⟩ (fun hHeld => ?_)
        refine take_ (i := 0) (N := some 41) (v := ?_) (a' := ?_) #[true, false, false, false, false, false, false, false, false, false, false] rfl rfl (by kernel_rfl) (fun _ _ _ h => h) (Or.inl ⟨by rfl, ?_⟩) hHeld ?_ ?_
        rotate_left
        · rintro w' ⟨s0, s1, s2, s3, s4, s5⟩
          go_simp
          with_reducible rfl
        rotate_left
        · simp only [Act.put, List.setIfInBounds_toArray, List.set_cons_zero, List.set_cons_succ, i64_w, i32_w]
          rfl
        refine pure_ (i := 1) (N := some 42) (v := ?_) (a' := ?_) #[true, true, false, false, false, false, false, false, false, false, false] rfl rfl (by kernel_rfl) (fun _ _ _ h => h) (Or.inl ⟨by rfl, ?_⟩) ?_ ?_
        rotate_left
        · intro w'
          go_simp
          with_reducible rfl
        rotate_left
        · simp only [Act.put, List.setIfInBounds_toArray, List.set_cons_zero, List.set_cons_succ, i64_w, i32_w]
          rfl
        refine pure_ (i := 2) (N := some 43) (v := ?_) (a' := ?_) #[true, true, true, false, false, false, false, false, false, false, false] rfl rfl (by kernel_rfl) (fun _ _ _ h => h) (Or.inl ⟨by rfl, ?_⟩) ?_ ?_
        rotate_left
        · intro w'
          go_simp
          with_reducible rfl
        rotate_left
        · simp only [Act.put, List.setIfInBounds_toArray, List.set_cons_zero, List.set_cons_succ, i64_w, i32_w]
          rfl
        refine take_ (i := 3) (N := some 44) (v := ?_) (a' := ?_) #[true, true, true, true, false, false, false, false, false, false, false] rfl rfl (by kernel_rfl) (fun _ _ _ h => h) (Or.inl ⟨by rfl, ?_⟩) hHeld ?_ ?_
        rotate_left
        · rintro w' ⟨s0, s1, s2, s3, s4, s5⟩
          go_simp
          with_reducible rfl
        rotate_left
        · simp only [Act.put, List.setIfInBounds_toArray, List.set_cons_zero, List.set_cons_succ, i64_w, i32_w]
          rfl
        refine take_ (i := 4) (N := some 45) (v := ?_) (a' := ?_) #[true, true, true, true, true, false, false, false, false, false, false] rfl rfl (by kernel_rfl) (fun _ _ _ h => h) (Or.inl ⟨by rfl, ?_⟩) hHeld ?_ ?_
        rotate_left
        · rintro w' ⟨s0, s1, s2, s3, s4, s5⟩
          go_simp
          with_reducible rfl
        rotate_left
        · simp only [Act.put, List.setIfInBounds_toArray, List.set_cons_zero, List.set_cons_succ, i64_w, i32_w]
          rfl
        refine take_ (i := 5) (N := some 46) (v := ?_) (a' := ?_) #[true, true, true, true, true, true, false, false, false, false, false] rfl rfl (by kernel_rfl) (fun _ _ _ h => h) (Or.inl ⟨by rfl, ?_⟩) hHeld ?_ ?_
        rotate_left
        · rintro w' ⟨s0, s1, s2, s3, s4, s5⟩
          go_simp
          with_reducible rfl
        rotate_left
        · simp only [Act.put, List.setIfInBounds_toArray, List.set_cons_zero, List.set_cons_succ, i64_w, i32_w]
          rfl
        refine pure_ (i := 6) (N := some 40) (v := ?_) (a' := ?_) #[true, true, true, true, true, true, true, false, false, false, false] rfl rfl (by kernel_rfl) (fun _ _ _ h => h) (Or.inl ⟨by rfl, ?_⟩) ?_ ?_
        rotate_left
        · intro w'
          go_simp
          with_reducible rfl
        rotate_left
        · simp only [Act.put, List.setIfInBounds_toArray, List.set_cons_zero, List.set_cons_succ, i64_w, i32_w]
          rfl
        refine pure_ (i := 7) (N := some 47) (v := ?_) (a' := ?_) #[true, true, true, true, true, true, true, true, false, false, false] rfl rfl (by kernel_rfl) (fun _ _ _ h => h) (Or.inl ⟨by rfl, ?_⟩) ?_ ?_
        rotate_left
        · intro w'
          go_simp
          with_reducible rfl
        rotate_left
        · simp only [Act.put, List.setIfInBounds_toArray, List.set_cons_zero, List.set_cons_succ, i64_w, i32_w]
          rfl
        refine pure_ (i := 8) (N := some 48) (v := ?_) (a' := ?_) #[true, true, true, true, true, true, true, true, true, false, false] rfl rfl (by kernel_rfl) (fun _ _ _ h => h) (Or.inl ⟨by rfl, ?_⟩) ?_ ?_
        rotate_left
        · intro w'
          go_simp
          with_reducible rfl
        rotate_left
        · simp only [Act.put, List.setIfInBounds_toArray, List.set_cons_zero, List.set_cons_succ, i64_w, i32_w]
          rfl
        refine pure_ (i := 9) (N := some 5) (v := ?_) (a' := ?_) #[true, true, true, true, true, true, true, true, true, true, false] rfl rfl (by kernel_rfl) (fun _ _ _ h => h) (Or.inl ⟨by rfl, ?_⟩) ?_ ?_
        rotate_left
        · intro w'
          go_simp
          with_reducible rfl
        rotate_left
        · simp only [Act.put, List.setIfInBounds_toArray, List.set_cons_zero, List.set_cons_succ, i64_w, i32_w]
          rfl
        refine pure_ (i := 10) (N := some 6) (v := ?_) (a' := ?_) #[true, true, true, true, true, true, true, true, true, true, true] rfl rfl (by kernel_rfl) (fun _ _ _ h => h) (Or.inl ⟨by rfl, ?_⟩) ?_ ?_
        rotate_left
        · intro w'
          go_simp
          with_reducible rfl
        rotate_left
        · simp only [Act.put, List.setIfInBounds_toArray, List.set_cons_zero, List.set_cons_succ, i64_w, i32_w]
          rfl
        refine done_ (by kernel_rfl) ?_

        clear hc0 hc1 hc2 hc3 hd0 hd1 hd2 hg1 hTM hks hkt hnd hlk htb
        go_wp2_with (first
          | ((with_reducible refine gate_dst (N := 7) rfl ?_); refine box_event ?hg (N := 7) ?hd (cs := #[.int .i64 0]) (t := 2) ?hr ?_; (case hd => rfl); (case hg => rfl); (case hr => first | (go_simp; done) | (go_simp; rfl)); intro g7 hg w4 hbox hb0; have hb : Below w3.heap.size w3 w4 := Below.trans (B := w3.heap.size) (by repeat first | exact Below.refl _ _ | refine pw_below_drewN ?_ _ | refine Below.drew ?_) hb0; clear hb0; have hg_ : g7 = w3.heap.size := hg; have NE7 := Aside0.mk (show g7 ≠ gm from fun e => by have := HM.out.lt; omega); have GE7 := Aside0.mk (show w.heap.size ≤ g7 by have := HFR.out.size; omega); have GZ7 := Aside0.mk (show w0.heap.size ≤ g7 by have := HW.out.bl.size; omega);
             have NGP := Aside0.mk (show gp ≠ g7 from fun e => by have := blk_lt HW.out.p; omega); have NGB := Aside0.mk (show gb ≠ g7 from fun e => by have := blk_lt HW.out.b; omega); have NG1 := Aside0.mk (show g1 ≠ g7 from fun e => by have := blk_lt H1.out; omega); have NGT := Aside0.mk (show gt ≠ g7 from fun e => by have := blk_lt H2.out; omega); clear hg_;
             have n5_ := Aside0.mk (HFR.out.trans (Fr.of_below (F := (· = gm)) hb)); have n1_ := Aside0.mk (blk_below H1.out hb); have n2_ := Aside0.mk (blk_below H2.out hb); have H7 := Aside0.mk hbox; have n3_ := Aside0.mk (HW.out.below hb); have n4_ := Aside0.mk (HM.out.below hb); clear H1 H2 HFR HW HM hg hb hbox; have H1 := n1_; have H2 := n2_; have HFR := n5_; have HW := n3_; have HM := n4_; clear n1_ n2_ n3_ n4_ n5_; have hg7 := (blk_cell H7.out 0).trans rfl; have hf7 := blk_frozen H7.out 0)
          | ((with_reducible refine gate_store (t := 2) (p := 7) rfl ?_); refine store_event (t := 2) (p := 7) (v := ?vo) (w1 := w4.setCell ⟨g7, 0, none⟩ (.int .i64 (-1))) ?hg ?ho ?hn ?hr ?_; (case ho => rfl); (case hg => rfl); (case hn => rfl); (case hr => first | (go_simp; done) | (go_simp; rfl)); intro w5 hw; clear hg7 hf7;
             have hFs : Fr (· = g7) w4 w5 := (by rw [hw]; exact Fr.set_ (F := (· = g7)) (Fr.refl _ _) (Eq.refl g7) _); have n7_ := Aside0.mk (show w5.heap[g7]? = some (.cells #[.int .i64 (-1)] 2 (0, 0)) by rw [hw]; exact blk_put H7.out 0 _ rfl);
             have n1_ := Aside0.mk (hFs.blk H1.out NG1.out); have n2_ := Aside0.mk (hFs.blk H2.out NGT.out); have n3_ := Aside0.mk (HW.out.fr hFs (fun k e => by rw [e]; exact GZ7.out) NGP.out NGB.out); have n4_ := Aside0.mk (HM.out.fr hFs (fun e => NE7.out e.symm)); have n5_ := Aside0.mk (Fr.then_ HFR.out hFs (fun i e => .inr (by rw [e]; exact GE7.out)));
             clear H1 H2 HFR HW HM H7 hw hFs; have H1 := n1_; have H2 := n2_; have HFR := n5_; have HW := n3_; have HM := n4_; have H7 := n7_; clear n1_ n2_ n3_ n4_ n5_ n7_; have hg1 := (blk_cell H1.out 0).trans rfl; have hd0 := (blk_cell H2.out 0).trans rfl; have hd1 := (blk_cell H2.out 1).trans rfl; have hd2 := (blk_cell H2.out 2).trans rfl)
          | (go_at_call 124; (with_reducible refine (choices_ Try.func151 (by kernel_rfl) rfl #[.pointer (some ⟨g1, 0, none⟩), .pointer (some ⟨g7, 0, none⟩)] gp gb gm A c l fin d ts tl w5
                (fun pre w' => PW w0 gp gb gm A c l fin w' ∧ Mem l fin gm w' ∧ w'.heap[g1]? = some (.cells #[.pointer (some ⟨gp, 0, none⟩)] 147 (0, 0)) ∧ w'.heap[g7]? = some (.cells #[.int .i64 (pre.foldl (stepF (lf l fin)) (-1))] 2 (0, 0))) (fun k => k = gm ∨ k = g7) ?q1 ?q2 ?q3 ?q4 ?q5 ?q6 ?q7 ?q8 ?q9).mono ?_);
             (case q1 => exact hn); (case q2 => exact htl); (case q3 => exact ⟨hts0, hts9⟩); (case q4 => exact HROW.out); (case q5 => exact ⟨HW.out, HM.out, H1.out, H7.out⟩); (case q6 => exact fun pre w' h => h.1.pl); (case q7 => exact fun pre w1 w2 h hb => ⟨h.1.below hb, h.2.1.below hb, blk_below h.2.2.1 hb, blk_below h.2.2.2 hb⟩);
             (case q8 => rintro k (rfl | rfl); exact HM.out.lt; exact blk_lt H7.out);
             (case q9 =>
                intro pre x post w' hsp hI
                have hxo := itms_ok hn HT.out x (by rw [hsp]; simp)
                refine (left1_ w0 gp gb gm g1 g7 A c l fin _ x w' (fun w1 hW1 hM1 => IH.out x.t w1 (by have := HK.out; have := hxo.2.1; omega) hxo.1 hW1 hM1) hI.1 hI.2.1 hI.2.2.1 hI.2.2.2 NE.out NE7.out NG1.out GZ7.out (fun e => NGP.out e.symm) (fun e => NGB.out e.symm)).mono ?_
                rintro e w'' ⟨rfl, hM2, h72, hF2⟩
                exact ⟨rfl, ⟨hI.1.fr hF2 (fun k hk => hk.elim (fun e => e ▸ HW.out.ge) (fun e => e ▸ GZ7.out)) (fun h => h.elim HW.out.np NGP.out) (fun h => h.elim HW.out.nb NGB.out), hM2, hF2.blk hI.2.2.1 (fun h => h.elim NE.out NG1.out), by rw [List.foldl_append]; exact h72⟩, hF2⟩);
             rintro e w6 ⟨rfl, ⟨hW6, hM6, h16, h76⟩, hF6⟩;
             have hE7 := (lf_eq (fin := fin) hn HT.out hnf).symm; rw [hE7] at h76; clear hE7;
             have HW6 := Aside0.mk hW6; have HM6 := Aside0.mk hM6; have H16 := Aside0.mk h16; have H76 := Aside0.mk h76; have HF6 := Aside0.mk hF6; have H26 := Aside0.mk (hF6.blk H2.out (fun h => h.elim NET.out NGT.out));
             clear hW6 hM6 h16 h76 hF6 hg1 hd0 hd1 hd2;
             have hg1 := (blk_cell H16.out 0).trans rfl; have hg7 := (blk_cell H76.out 0).trans rfl; have hd0 := (blk_cell H26.out 0).trans rfl; have hd1 := (blk_cell H26.out 1).trans rfl; have hd2 := (blk_cell H26.out 2).trans rfl; have hc3 := (blk_cell HW6.out.p 2).trans rfl))
        obtain ⟨w7, hrun7, hM7, hF7⟩ := Mem.put (w := w6.drew) hn (HM6.out.below (by repeat first | exact Below.refl _ _ | refine pw_below_drewN ?_ _ | refine Below.drew ?_)) HT.out (lf_wf _ _ _)
        refine start_ (n := 7) (S := fun w' => w'.cell? ⟨g1, 0, none⟩ = some (.pointer (some ⟨gp, 0, none⟩)) ∧ w'.cell? ⟨gp, 2, none⟩ = some (.map (some gm)) ∧ w'.cell? ⟨gt, 0, none⟩ = some (.int .i64 d) ∧ w'.cell? ⟨gt, 1, none⟩ = some (.int .i64 tl) ∧ w'.cell? ⟨gt, 2, none⟩ = some (.int .i64 ts) ∧ w'.cell? ⟨g7, 0, none⟩ = some (.int .i64 (lf l fin ⟨d, tl, ts⟩))) (ds := [6]) #[false, false, false, false, false, false, false] (by kernel_rfl) rfl rfl ⟨hg1, hc3, hd0, hd1, hd2, hg7⟩ (fun hHeld => ?_)
        refine take_ (i := 0) (N := some 55) (v := ?_) (a' := ?_) #[true, false, false, false, false, false, false] rfl rfl (by kernel_rfl) (fun _ _ _ h => h) (Or.inl ⟨by rfl, ?_⟩) hHeld ?_ ?_
        rotate_left
        · rintro w' ⟨s0, s1, s2, s3, s4, s5⟩
          go_simp
          with_reducible rfl
        rotate_left
        · simp only [Act.put, List.setIfInBounds_toArray, List.set_cons_zero, List.set_cons_succ, i64_w, i32_w]
          rfl
        refine pure_ (i := 1) (N := some 56) (v := ?_) (a' := ?_) #[true, true, false, false, false, false, false] rfl rfl (by kernel_rfl) (fun _ _ _ h => h) (Or.inl ⟨by rfl, ?_⟩) ?_ ?_
        rotate_left
        · intro w'
          go_simp
          with_reducible rfl
        rotate_left
        · simp only [Act.put, List.setIfInBounds_toArray, List.set_cons_zero, List.set_cons_succ, i64_w, i32_w]
          rfl
        refine pure_ (i := 2) (N := some 57) (v := ?_) (a' := ?_) #[true, true, true, false, false, false, false] rfl rfl (by kernel_rfl) (fun _ _ _ h => h) (Or.inl ⟨by rfl, ?_⟩) ?_ ?_
        rotate_left
        · intro w'
          go_simp
          with_reducible rfl
        rotate_left
        · simp only [Act.put, List.setIfInBounds_toArray, List.set_cons_zero, List.set_cons_succ, i64_w, i32_w]
          rfl
        refine take_ (i := 3) (N := some 58) (v := ?_) (a' := ?_) #[true, true, true, true, false, false, false] rfl rfl (by kernel_rfl) (fun _ _ _ h => h) (Or.inl ⟨by rfl, ?_⟩) hHeld ?_ ?_
        rotate_left
        · rintro w' ⟨s0, s1, s2, s3, s4, s5⟩
          go_simp
          with_reducible rfl
        rotate_left
        · simp only [Act.put, List.setIfInBounds_toArray, List.set_cons_zero, List.set_cons_succ, i64_w, i32_w]
          rfl
        refine take_ (i := 4) (N := some 59) (v := ?_) (a' := ?_) #[true, true, true, true, true, false, false] rfl rfl (by kernel_rfl) (fun _ _ _ h => h) (Or.inl ⟨by rfl, ?_⟩) hHeld ?_ ?_
        rotate_left
        · rintro w' ⟨s0, s1, s2, s3, s4, s5⟩
          go_simp
          with_reducible rfl
        rotate_left
        · simp only [Act.put, List.setIfInBounds_toArray, List.set_cons_zero, List.set_cons_succ, i64_w, i32_w]
          rfl
        refine take_ (i := 5) (N := some 60) (v := ?_) (a' := ?_) #[true, true, true, true, true, true, false] rfl rfl (by kernel_rfl) (fun _ _ _ h => h) (Or.inl ⟨by rfl, ?_⟩) hHeld ?_ ?_
        rotate_left
        · rintro w' ⟨s0, s1, s2, s3, s4, s5⟩
          go_simp
          with_reducible rfl
        rotate_left
        · simp only [Act.put, List.setIfInBounds_toArray, List.set_cons_zero, List.set_cons_succ, i64_w, i32_w]
          rfl
        refine last_ (i := 6) (N := none) #[true, true, true, true, true, true, true] rfl rfl (by kernel_rfl) (by decide) (fun K hK => ?_)
        refine tput_ (b := gm) (tv := .agg #[.int .i64 d, .int .i64 tl, .int .i64 ts]) (yv := .int .i64 (lf l fin ⟨d, tl, ts⟩)) (by rfl) rfl rfl rfl rfl rfl hrun7 ?_
        refine hK.out _ _ ?_
        clear hK K
        refine done_ (by kernel_rfl) ?_

        clear hg7 hg1 hd0 hd1 hd2 hc3
        have H77 := Aside0.mk (hF7.blk (show w6.drew.heap[g7]? = _ from H76.out) NE7.out)
        have hg7 := (blk_cell H77.out 0).trans rfl
        go_wp2
        first | go_ret | go_ret2
        refine ⟨rfl, hM7, ?_⟩
        have h1 := Fr.then_ HFR.out HF6.out (fun i hi => hi.elim .inl (fun e => .inr (by rw [e]; exact GE7.out)))
        have h2 : Fr (· = gm) w6 w6.drew := Fr.of_below (by repeat first | exact Below.refl _ _ | refine pw_below_drewN ?_ _ | refine Below.drew ?_)
        exact (h1.trans h2).trans hF7
end Go.Proofs.Ytaapbnhggfmlpaa.P
end
section
set_option linter.unusedVariables false
namespace Go.Proofs.Ytaapbnhggfmlpaa.M
open Go.Maps Go.RowKit Go.ChangeMaps
theorem k3_inv (m : Nat) (hm : m ≠ 0) (a : Value) (ls : List Lit) (h : Try.prog.keyLits m 3 [a] = some ls) : ∃ x : Int, a = .int .i64 x ∧ (Lit.int .i64 x).wf = true ∧ ls = [.int .i64 x] := by
  have e3 : Try.prog.underlying 3 = some (.int .i64) := Try.underlying3
  obtain ⟨m, rfl⟩ := Nat.exists_eq_succ_of_ne_zero hm
  simp only [Program.keyLits, e3] at h
  cases a <;> simp at h
  obtain ⟨⟨rfl, hw⟩, rfl⟩ := h
  exact ⟨_, rfl, hw, rfl⟩
theorem key_inv {key : Value} {kl : Lit} (h : keyOf Try.prog 150 key = some kl) : ∃ t : T3, t.ok ∧ key = t.v ∧ kl = tk t := by
  have h0 := h
  have hs : Try.prog.types.size = Try.prog.types.size - 1 + 1 := by kernel_rfl
  have c3 : Try.prog.cellsOf 3 = 1 := by kernel_rfl
  have c150 : Try.prog.cellsOf 150 = 3 := by kernel_rfl
  unfold keyOf at h
  simp only [Try.underlying150, kt150, Bool.true_and] at h
  split at h
  · rename_i hf
    obtain ⟨ls, hls, rfl⟩ := Option.map_eq_some_iff.1 h
    cases key with
    | agg cs =>
      simp only [Value.formed, Try.underlying150, c150, beq_iff_eq] at hf
      obtain ⟨cs⟩ := cs
      have hl : cs.length = 3 := by simpa using hf
      obtain ⟨a, b, c, rfl⟩ : ∃ a b c, cs = [a, b, c] := by
        rcases cs with _ | ⟨a, _ | ⟨b, _ | ⟨c, _ | ⟨d, r⟩⟩⟩⟩
        · simp at hl
        · simp at hl
        · simp at hl
        · exact ⟨a, b, c, rfl⟩
        · simp at hl
      rw [hs] at hls
      simp only [Value.cells] at hls
      conv at hls => lhs; unfold Program.keyLits
      simp only [Try.underlying150] at hls
      rw [if_pos ⟨by rw [c150]; rfl, by kernel_rfl⟩] at hls
      simp [c3] at hls
      obtain ⟨mm, hmm⟩ : ∃ mm : Nat, mm = 203 := ⟨_, rfl⟩
      rw [← hmm] at hls
      have hm0 : mm ≠ 0 := by omega
      clear hmm
      obtain ⟨la, ha, h1⟩ := Option.bind_eq_some_iff.1 hls
      clear hls
      simp only [Function.comp, Option.map_eq_some_iff] at h1
      obtain ⟨ls', h2, rfl⟩ := h1
      obtain ⟨lb', h3, h4⟩ := Option.bind_eq_some_iff.1 h2
      obtain ⟨lb, hb, h5⟩ := Option.bind_eq_some_iff.1 h3
      obtain ⟨lc', h6, h7⟩ := Option.bind_eq_some_iff.1 h5
      obtain ⟨lc, hc, h8⟩ := Option.bind_eq_some_iff.1 h6
      obtain rfl := Option.some.inj h8
      obtain rfl := Option.some.inj h7
      obtain rfl := Option.some.inj h4
      obtain ⟨x, rfl, hx, rfl⟩ := k3_inv _ hm0 _ _ ha
      obtain ⟨y, rfl, hy, rfl⟩ := k3_inv _ hm0 _ _ hb
      obtain ⟨z, rfl, hz, rfl⟩ := k3_inv _ hm0 _ _ hc
      exact ⟨⟨x, y, z⟩, ⟨hx, hy, hz⟩, rfl, rfl⟩
    | _ => simp [Value.formed, Try.underlying150] at hf
  · cases h
open Go.MapKept in
theorem tm_clear {w : World} {b n : Nat} {f : T3 → Option Int} (h : TM w b n f) (ty : TypeId) : ∃ w', (Builtin.clear_ #[111] ty #[.map (some b)]).run Try.prog w = .ok (.tuple #[]) w' ∧ TM w' b 0 (fun _ => none) ∧ w.mapTurned w' b := by
  obtain ⟨D, ⟨es, clock, hb, r⟩, h1⟩ := h
  refine ⟨setBlock w b (.map #[] clock), ?_, ⟨.map [], ⟨#[], clock, heap_setBlock_same hb _, ⟨by simp, stamped_empty clock, by simp⟩, Nat.le_refl _, rfl⟩, fun t _ => ⟨by simp [Maps.has], by simp [DataW.atKey]⟩⟩, ⟨es, clock, #[], clock, hb, rfl⟩⟩
  have hlt : b < w.heap.size := (Array.getElem?_eq_some_iff.1 hb).1
  simp [Builtin.clear_, Go.run_underlying Try.underlying111, Go.MapKept.run_getObj_map hb, Go.MapKept.run_setObj_map _ hb, Result.andThen]
  rfl
theorem TM.ne_cells {w : World} {b n : Nat} {f : T3 → Option Int} (h : TM w b n f) {g : Nat} {t : TypeId} {cs : Array Value} {z : Nat × Nat} (hg : w.heap[g]? = some (.cells cs t z)) : g ≠ b := by
  rintro rfl
  obtain ⟨D, ⟨es, clock, hb, _⟩, _⟩ := h
  rw [hb] at hg
  cases hg
/-- A range over a map of tasks, under way: S are the tasks still to come. -/
def RG (w : World) (b r n : Nat) (f : T3 → Option Int) (S : T3 → Prop) (cnt : Nat) : Prop :=
  ∃ (D : DataW Unit) (left : Lit → Bool), w.ranges Try.prog 150 (plainElem Try.prog 2) b r n D left cnt ∧
    (∀ t, t.ok → Maps.has D (tk t) = (f t).isSome ∧ D.atKey (tk t) (.lit (.int .i64 0)) = .lit (.int .i64 ((f t).getD 0))) ∧ (∀ t, t.ok → (left (tk t) = true ↔ S t)) ∧ ∀ t, t.ok → S t → (f t).isSome = true
section
variable {w w' : World} {b r n cnt : Nat} {f : T3 → Option Int} {S : T3 → Prop}
theorem RG.tm (h : RG w b r n f S cnt) : TM w b n f := by
  obtain ⟨D, left, h, h1, _⟩ := h
  exact ⟨D, h.owns, h1⟩
theorem RG.left_eq (h : RG w b r n f S cnt) : w.rangeLeft b r = cnt := by
  obtain ⟨D, left, h, _⟩ := h
  exact h.left_eq
theorem RG.lt (h : RG w b r n f S cnt) : r < w.heap.size := by
  obtain ⟨D, left, h, _⟩ := h
  exact h.lt
theorem RG.ne (h : RG w b r n f S cnt) : r ≠ b := by
  obtain ⟨D, left, h, _⟩ := h
  exact h.ne
theorem RG.heap (h : RG w b r n f S cnt) (hb : w'.heap[b]? = w.heap[b]?) (hr : w'.heap[r]? = w.heap[r]?) : RG w' b r n f S cnt := by
  obtain ⟨D, left, ⟨es, clock, since, seen, c0, k1, F, k2, k3, k4, k5⟩, h1⟩ := h
  exact ⟨D, left, ⟨es, clock, since, seen, c0, hb.trans k1, F, k2, k3, hr.trans k4, k5⟩, h1⟩
theorem same_tk (t u : T3) (ht : t.ok) (hu : u.ok) : (tk t).sameKey (tk u) = decide (t = u) := by
  by_cases e : t = u
  · subst e
    simp [tk, Lit.sameKey]
  · have ne : tk t ≠ tk u := fun h => e (tk_inj ht hu h)
    have h2 : keyBytes [Lit.int .i64 t.d, Lit.int .i64 t.l, Lit.int .i64 t.s] ≠ keyBytes [Lit.int .i64 u.d, Lit.int .i64 u.l, Lit.int .i64 u.s] := fun h => ne (by unfold tk; rw [h])
    simp [tk, Lit.sameKey, e, h2]
end
section
variable (w : World) {ops : Array Oper} {rest : List Oper} {o : Oper} {a : Act} {Q : Exit → Act → World → Prop}
theorem wp_tclear (hg : o.guard = none) (m : Operand) (hop : o.op = Op.call { callee := Callee.builtin Builtin.clear, args := #[m], argTypes := #[111] }) (b n : Nat) (f : T3 → Option Int) (hm : a.eval m = .map (some b)) (h : TM w b n f)
    (hK : ∀ w', TM w' b 0 (fun _ => none) → w.grownBy w' (some b) → wpList Try.prog ops Q rest (a.put o.dst (.tuple #[])) w') : wpList Try.prog ops Q (o :: rest) a w := by
  refine wpList_plain hg fun K' hK' => ?_
  obtain ⟨w', hrun, r1, r2⟩ := tm_clear h o.type
  unfold Oper.wp
  simp [execOp, hop, resolve, invoke, builtin, hm, hrun, Result.andThen]
  exact hK' _ _ (hK w' r1 r2.grown)
theorem wp_trange (hg : o.guard = none) (m : Operand) (hop : o.op = Op.range 111 m) (b n : Nat) (f : T3 → Option Int) (hm : a.eval m = .map (some b)) (h : TM w b n f)
    (hK : ∀ (r cnt : Nat) w', r = w.heap.size → RG w' b r n f (fun t => (f t).isSome = true) cnt → Below w.heap.size w w' → wpList Try.prog ops Q rest (a.put o.dst (.pointer (some ⟨r, 0, none⟩))) w') :
    wpList Try.prog ops Q (o :: rest) a w := by
  obtain ⟨D, ho, h1⟩ := h
  refine wpList_range_own w hg m 111 hop 150 2 law150 Try.underlying111 (plainElem Try.prog 2) b n D hm ho ?_
  intro w' hr hgr hsz
  refine hK w.heap.size _ w' rfl ⟨D, _, hr, h1, fun t ht => by rw [(h1 t ht).1], fun t ht h => h⟩ ⟨hgr.os, hgr.tape, hgr.output, hgr.size, fun i hi => hgr.block i hi (by simp)⟩
theorem wp_tnext (hg : o.guard = none) (it : Operand) (hop : o.op = Op.next it false) (b r n cnt : Nat) (f : T3 → Option Int) (S : T3 → Prop) (hit : a.eval it = .pointer (some ⟨r, 0, none⟩)) (h : RG w b r n f S cnt)
    (hDone : (∀ t, t.ok → ¬ S t) → wpList Try.prog ops Q rest (a.put o.dst (.tuple #[.bool false])) w)
    (hMore : ∀ (t : T3) (v : Int) (w' : World) (cnt' : Nat), t.ok → S t → f t = some v → RG w' b r n f (fun u => S u ∧ u ≠ t) cnt' → cnt' < cnt → w.grownBy w' (some r) → w'.heap.size = w.heap.size →
      (Instr.entry (.pointer (some ⟨r, 0, none⟩))).run Try.prog w' = .ok (.tuple #[t.v, .int .i64 v]) w' → wpList Try.prog ops Q rest (a.put o.dst (.tuple #[.bool true, t.v, .int .i64 v])) w') :
    wpList Try.prog ops Q (o :: rest) a w := by
  obtain ⟨D, left, hr, h1, h2, h3⟩ := h
  refine wpList_next_ranges w hg it hop 150 law150 (plainElem Try.prog 2) T3.v (Value.int .i64) (fun key kl hkey => by obtain ⟨t, _, rfl, _⟩ := key_inv hkey; exact ⟨t, rfl⟩)
    (fun v y hv => by obtain ⟨c, rfl, _⟩ := plainElem_int_inv Try.underlying2 hv; exact ⟨c, rfl⟩) b r n D left cnt hit hr ?_ ?_
  · intro h0 hl
    exact hDone fun t ht hS => by
      have := (h2 t ht).2 hS
      rw [hl] at this
      cases this
  · intro t c kl y w' cnt' hkey hlk hv hat hrg hlt hgr hsz hen
    obtain ⟨t', ht', e, rfl⟩ := key_inv hkey
    have e' : t = t' := by cases t; cases t'; simp at e; simp [e]
    subst e'
    obtain ⟨c', e2, e3, hw⟩ := plainElem_int_inv Try.underlying2 hv
    cases e2
    have hS := (h2 t ht').1 hlk
    have hsome := h3 t ht' hS
    have hft : f t = some c := by
      obtain ⟨v, hv2⟩ := Option.isSome_iff_exists.1 hsome
      have h4 := (h1 t ht').2
      rw [hat, hv2, e3] at h4
      simp at h4
      rw [hv2, h4]
    refine hMore t c w' cnt' ht' hS hft ⟨D, _, hrg, h1, fun u hu => ?_, fun u hu hSu => h3 u hu hSu.1⟩ hlt hgr hsz hen
    rw [Bool.and_eq_true, h2 u hu, same_tk u t hu ht']
    simp
end
end Go.Proofs.Ytaapbnhggfmlpaa.M
end
section
set_option linter.unusedVariables false
namespace Go.Proofs.Ytaapbnhggfmlpaa.A
open Go.RowKit Go.Proofs.Ytaapbnhggfmlpaa.P Go.Proofs.YtaapbnhggfmlpaaW.PrintWords Go.Proofs.Ytaapbnhggfmlpaa.M
def kf (l : List (List Int)) (fin : Int) (ks : List T3) : T3 → Option Int := fun u => if u ∈ ks then some (lf l fin u) else none
def addK (ks : List T3) (t : T3) : List T3 := if t ∈ ks then ks else t :: ks
def baseK (s : Int × List T3) (x : Itm) : List T3 := if (x.w : Int) < s.1 then [] else s.2
def skipN (l : List (List Int)) (fin want : Int) (s : Int × List T3) (x : Itm) : Prop := s.1 < x.w ∨ lf l fin x.t < 0 ∨ wrap64 (lf l fin x.t + x.c) ≠ want
instance (l : List (List Int)) (fin want : Int) (s : Int × List T3) (x : Itm) : Decidable (skipN l fin want s x) := by unfold skipN; infer_instance
def stepN (l : List (List Int)) (fin want : Int) (s : Int × List T3) (x : Itm) : Int × List T3 :=
  if skipN l fin want s x then s else (x.w, addK (baseK s x) x.t)
theorem kf_add (l : List (List Int)) (fin : Int) (ks : List T3) (t : T3) : (fun u => if u = t then some (lf l fin t) else kf l fin ks u) = kf l fin (addK ks t) := by
  funext u
  unfold kf addK
  by_cases e : u = t
  · subst e
    by_cases h : u ∈ ks <;> simp [h]
  · by_cases h : t ∈ ks
    · simp [e, h]
    · simp [e, h]
theorem kf_nil (l : List (List Int)) (fin : Int) : (fun _ => none) = kf l fin [] := by
  funext u
  simp [kf]
theorem addK_nodup {ks : List T3} (h : ks.Nodup) (t : T3) : (addK ks t).Nodup := by
  unfold addK
  split
  · exact h
  · rename_i hn
    exact List.nodup_cons.2 ⟨hn, h⟩
theorem addK_tk {n : Nat} {ks : List T3} (h : ∀ u ∈ ks, Tk n u) {t : T3} (ht : Tk n t) : ∀ u ∈ addK ks t, Tk n u := by
  unfold addK
  split
  · exact h
  · intro u hu
    rcases List.mem_cons.1 hu with rfl | hu
    · exact ht
    · exact h u hu
theorem addK_len (l : List (List Int)) (fin : Int) (ks : List T3) (t : T3) : (kf l fin ks t).isSome = true ∧ ks.length ≤ (addK ks t).length ∨ ks.length + 1 ≤ (addK ks t).length := by
  unfold addK kf
  by_cases h : t ∈ ks <;> simp [h]
structure KOk (n : Nat) (ks : List T3) : Prop where
  nd : ks.Nodup
  tk : ∀ u ∈ ks, Tk n u
theorem KOk.nil (n : Nat) : KOk n [] := ⟨List.nodup_nil, fun u (h : u ∈ ([] : List T3)) => absurd h (by simp)⟩
theorem KOk.add {n : Nat} {ks : List T3} (h : KOk n ks) {t : T3} (ht : Tk n t) : KOk n (addK ks t) := ⟨addK_nodup h.nd t, addK_tk h.tk ht⟩
theorem KOk.base {n : Nat} {s : Int × List T3} (h : KOk n s.2) (x : Itm) : KOk n (baseK s x) := by
  unfold baseK
  split
  · exact KOk.nil n
  · exact h
theorem KOk.step {l : List (List Int)} {fin want : Int} {s : Int × List T3} (h : KOk l.length s.2) {x : Itm} (hx : Tk l.length x.t) : KOk l.length (stepN l fin want s x).2 := by
  unfold stepN
  split
  · exact h
  · exact (h.base x).add hx
end Go.Proofs.Ytaapbnhggfmlpaa.A
end
