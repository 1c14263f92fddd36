/- Lemmas and contracts of functions, part 5 of 9, for this law: The law FnExactBestBetween holds for every input. -/
import Derived.Test.YtaapbnhggfmlpaaExBetQ1
import Derived.Test.YtaapbnhggfmlpaaExBetQ4
section
namespace Go.Proofs.Ytaapbnhggfmlpaa.P
open Go.RowKit Go.Proofs.YtaapbnhggfmlpaaW.PrintWords Go.Proofs.YtaapbnhggfmlpaaW.PrintLast Go.Proofs.YtaapbnhggfmlpaaW.PrintMore
attribute [local go_sem] max2_int min2_int max_two min_two max_three min_three max_four min_four   -- for this text's walks alone
set_option linter.unusedVariables false
set_option linter.unusedSimpArgs false
mutual
def spec_l10Left.l0 : Nat → Int → Int → Int → Int → List Int → Int → List (List Int) → Option (List Int)
 | 0, _, _, _, _, _, _, _ => none
 | k + 1, x1, x2, x7, x8, x9, x10, x1000 => if x10 < (x9.length : Int) then (if 0 ≤ x10 then (spec_l10Left.l0 k x1 x2 x7 x8 (x9.set (x10 : Int).toNat (-1)) (wrap64 (x10 + 1)) x1000) else (none)) else (spec_l10Left.l1 k x1 x2 x7 x8 x9 x8 x1000)
def spec_l10Left.l1 : Nat → Int → Int → Int → Int → List Int → Int → List (List Int) → Option (List Int)
 | 0, _, _, _, _, _, _, _ => none
 | k + 1, x1, x2, x7, x8, x9, x11, x1000 => if x11 > 0 then (spec_l10Left.l2 k x1 x2 x7 x8 x9 x11 0 x1000) else (some x9)
def spec_l10Left.l2 : Nat → Int → Int → Int → Int → List Int → Int → Int → List (List Int) → Option (List Int)
 | 0, _, _, _, _, _, _, _, _ => none
 | k + 1, x1, x2, x7, x8, x9, x11, x12, x1000 => if x12 < x7 then (if 0 ≤ (IntKind.u64.wrap (x12)) then (if (Go.bits .and .i64 (shr .i64 x11 (IntKind.u64.wrap (x12))) 1) = 0 then (spec_l10Left.l2 k x1 x2 x7 x8 x9 x11 (wrap64 (x12 + 1)) x1000) else (spec_l10Left.l3 k x1 x2 x7 x8 x9 x11 x12 0 x1000)) else (none)) else (spec_l10Left.l1 k x1 x2 x7 x8 x9 (wrap64 (x11 - 1)) x1000)
def spec_l10Left.l3 : Nat → Int → Int → Int → Int → List Int → Int → Int → Int → List (List Int) → Option (List Int)
 | 0, _, _, _, _, _, _, _, _, _ => none
 | k + 1, x1, x2, x7, x8, x9, x11, x12, x13, x1000 => if x13 ≤ x1 then (if x11 = x8 then (if x13 = 0 then (if x2 < 0 then (spec_l10Left.j4 k x1 x2 x7 x8 x9 x11 x12 x13 (wrap64 ((wrap64 ((wrap64 ((wrap64 (x11 * 9)) + x12)) * 9)) + x13)) true x1000) else (spec_l10Left.j4 k x1 x2 x7 x8 x9 x11 x12 x13 (wrap64 ((wrap64 ((wrap64 ((wrap64 (x11 * 9)) + x12)) * 9)) + x13)) (x12 == x2) x1000)) else (spec_l10Left.j4 k x1 x2 x7 x8 x9 x11 x12 x13 (wrap64 ((wrap64 ((wrap64 ((wrap64 (x11 * 9)) + x12)) * 9)) + x13)) false x1000)) else (spec_l10Left.l4 k x1 x2 x7 x8 x9 x11 x12 x13 (wrap64 ((wrap64 ((wrap64 ((wrap64 (x11 * 9)) + x12)) * 9)) + x13)) 0 x1000)) else (spec_l10Left.l2 k x1 x2 x7 x8 x9 x11 (wrap64 (x12 + 1)) x1000)
def spec_l10Left.j4 : Nat → Int → Int → Int → Int → List Int → Int → Int → Int → Int → Bool → List (List Int) → Option (List Int)
 | 0, _, _, _, _, _, _, _, _, _, _, _ => none
 | k + 1, x1, x2, x7, x8, x9, x11, x12, x13, x14, x81, x1000 => if x81 = true then (if 0 ≤ x14 then (if x14 < (x9.length : Int) then (spec_l10Left.l3 k x1 x2 x7 x8 (x9.set (x14 : Int).toNat 0) x11 x12 (wrap64 (x13 + 1)) x1000) else (none)) else (none)) else (spec_l10Left.l3 k x1 x2 x7 x8 x9 x11 x12 (wrap64 (x13 + 1)) x1000)
def spec_l10Left.l4 : Nat → Int → Int → Int → Int → List Int → Int → Int → Int → Int → Int → List (List Int) → Option (List Int)
 | 0, _, _, _, _, _, _, _, _, _, _, _ => none
 | k + 1, x1, x2, x7, x8, x9, x11, x12, x13, x14, x15, x1000 => if x15 < x7 then (if 0 ≤ (IntKind.u64.wrap (x15)) then (if (Go.bits .and .i64 (shr .i64 x11 (IntKind.u64.wrap (x15))) 1) = 1 then (spec_l10Left.l4 k x1 x2 x7 x8 x9 x11 x12 x13 x14 (wrap64 (x15 + 1)) x1000) else (spec_l10Left.l5 k x1 x2 x7 x8 x9 x11 x12 x13 x14 x15 0 x1000)) else (none)) else (spec_l10Left.l3 k x1 x2 x7 x8 x9 x11 x12 (wrap64 (x13 + 1)) x1000)
def spec_l10Left.l5 : Nat → Int → Int → Int → Int → List Int → Int → Int → Int → Int → Int → Int → List (List Int) → Option (List Int)
 | 0, _, _, _, _, _, _, _, _, _, _, _, _ => none
 | k + 1, x1, x2, x7, x8, x9, x11, x12, x13, x14, x15, x16, x1000 => (spec_l00Min.f 1 x13).bind fun t860 => (if x16 ≤ t860 then (if 0 ≤ (IntKind.u64.wrap (x15)) then (if 0 ≤ (wrap64 ((wrap64 ((wrap64 ((wrap64 ((wrap64 ((Go.bits .or .i64 x11 (shl .i64 1 (IntKind.u64.wrap (x15)))) * 9)) + x15)) * 9)) + x13)) - x16)) then (if (wrap64 ((wrap64 ((wrap64 ((wrap64 ((wrap64 ((Go.bits .or .i64 x11 (shl .i64 1 (IntKind.u64.wrap (x15)))) * 9)) + x15)) * 9)) + x13)) - x16)) < (x9.length : Int) then (if (rd x9 (wrap64 ((wrap64 ((wrap64 ((wrap64 ((wrap64 ((Go.bits .or .i64 x11 (shl .i64 1 (IntKind.u64.wrap (x15)))) * 9)) + x15)) * 9)) + x13)) - x16))) < 0 then (spec_l10Left.l5 k x1 x2 x7 x8 x9 x11 x12 x13 x14 x15 (wrap64 (x16 + 1)) x1000) else (if x16 = 0 then (if 0 ≤ x12 then (if x12 < (x1000.length : Int) then (if 0 ≤ x15 then (if x15 < ((rd_Ls2 x1000 x12).length : Int) then (spec_l10Left.j7 k x1 x2 x7 x8 x9 x11 x12 x13 x14 x15 x16 (wrap64 ((rd x9 (wrap64 ((wrap64 ((wrap64 ((wrap64 ((wrap64 ((Go.bits .or .i64 x11 (shl .i64 1 (IntKind.u64.wrap (x15)))) * 9)) + x15)) * 9)) + x13)) - x16))) + (rd (rd_Ls2 x1000 x12) x15))) x1000) else (none)) else (none)) else (none)) else (none)) else (spec_l10Left.j7 k x1 x2 x7 x8 x9 x11 x12 x13 x14 x15 x16 (rd x9 (wrap64 ((wrap64 ((wrap64 ((wrap64 ((wrap64 ((Go.bits .or .i64 x11 (shl .i64 1 (IntKind.u64.wrap (x15)))) * 9)) + x15)) * 9)) + x13)) - x16))) x1000))) else (none)) else (none)) else (none)) else (spec_l10Left.l4 k x1 x2 x7 x8 x9 x11 x12 x13 x14 (wrap64 (x15 + 1)) x1000))
def spec_l10Left.j7 : Nat → Int → Int → Int → Int → List Int → Int → Int → Int → Int → Int → Int → Int → List (List Int) → Option (List Int)
 | 0, _, _, _, _, _, _, _, _, _, _, _, _, _ => none
 | k + 1, x1, x2, x7, x8, x9, x11, x12, x13, x14, x15, x16, x17, x1000 => if 0 ≤ x14 then (if x14 < (x9.length : Int) then (if (rd x9 x14) < 0 then (spec_l10Left.l5 k x1 x2 x7 x8 (x9.set (x14 : Int).toNat x17) x11 x12 x13 x14 x15 (wrap64 (x16 + 1)) x1000) else (if x17 < (rd x9 x14) then (spec_l10Left.l5 k x1 x2 x7 x8 (x9.set (x14 : Int).toNat x17) x11 x12 x13 x14 x15 (wrap64 (x16 + 1)) x1000) else (spec_l10Left.l5 k x1 x2 x7 x8 x9 x11 x12 x13 x14 x15 (wrap64 (x16 + 1)) x1000))) else (none)) else (none)
end
def spec_l10Left.f (k : Nat) (l0_0 : List (List Int)) (a1 : Int) (a2 : Int) : Option (List Int) := if 0 ≤ (IntKind.u64.wrap ((l0_0.length : Int))) then (if 0 ≤ (wrap64 ((wrap64 ((wrap64 ((shl .i64 1 (IntKind.u64.wrap ((l0_0.length : Int)))) - 1)) + 1)) * 81)) then (if (wrap64 ((wrap64 ((wrap64 ((shl .i64 1 (IntKind.u64.wrap ((l0_0.length : Int)))) - 1)) + 1)) * 81) : Int).toNat ≤ 35184372088832 then (spec_l10Left.l0 k a1 a2 (l0_0.length : Int) (wrap64 ((shl .i64 1 (IntKind.u64.wrap ((l0_0.length : Int)))) - 1)) (List.replicate (wrap64 ((wrap64 ((wrap64 ((shl .i64 1 (IntKind.u64.wrap ((l0_0.length : Int)))) - 1)) + 1)) * 81) : Int).toNat 0) 0 l0_0) else (none)) else (none)) else (none)
set_option maxHeartbeats 4000000 in
set_option maxRecDepth 100000 in
theorem spec_l10Left.calls (k : Nat) (g0 : Nat) (A0_0 : Option Addr) (c0_0 : Nat) (l0_0 : List (List Int)) (a1 : Int) (a2 : Int) (r : List Int) (w : World) (hb0 : w.heap[g0]? = some (.cells #[.slice A0_0 l0_0.length c0_0] 44 (0, 0))) (hr0_0 : Kd.C (Kd.slice 2 (Kd.int .i64)) w A0_0 l0_0.length l0_0) (hc0_0 : l0_0.length ≤ c0_0) (h : spec_l10Left.f k l0_0 a1 a2 = some r) :
  Calls Try.prog 132 #[.pointer (some ⟨g0, 0, none⟩), .int .i64 a1, .int .i64 a2] w fun e w' => ∃ v0_ : Value, e = .returned (v0_) ∧ Kd.R (Kd.int .i64) 2 w' w.heap.size (fun _ => True) v0_ r ∧ Below w.heap.size w w' := by
 have HR0_0 := Aside0.mk hr0_0
 have HC0_0 := Aside0.mk hc0_0
 clear hr0_0 hc0_0
 have BK0 := Aside0.mk hb0
 clear hb0
 have HB := Aside0.mk (Below.refl w.heap.size w)
 have H : (if 0 ≤ (IntKind.u64.wrap ((l0_0.length : Int))) then (if 0 ≤ (wrap64 ((wrap64 ((wrap64 ((shl .i64 1 (IntKind.u64.wrap ((l0_0.length : Int)))) - 1)) + 1)) * 81)) then (if (wrap64 ((wrap64 ((wrap64 ((shl .i64 1 (IntKind.u64.wrap ((l0_0.length : Int)))) - 1)) + 1)) * 81) : Int).toNat ≤ 35184372088832 then (spec_l10Left.l0 k a1 a2 (l0_0.length : Int) (wrap64 ((shl .i64 1 (IntKind.u64.wrap ((l0_0.length : Int)))) - 1)) (List.replicate (wrap64 ((wrap64 ((wrap64 ((shl .i64 1 (IntKind.u64.wrap ((l0_0.length : Int)))) - 1)) + 1)) * 81) : Int).toNat 0) 0 l0_0) else (none)) else (none)) else (none)) = some r := h
 clear h
 obtain ⟨ji4, hji4⟩ : ∃ j_ : Int, (IntKind.u64.wrap ((l0_0.length : Int))) = j_ := ⟨_, rfl⟩
 replace H : (if 0 ≤ (ji4) then (if 0 ≤ (wrap64 ((wrap64 ((wrap64 ((shl .i64 1 (ji4)) - 1)) + 1)) * 81)) then (if (wrap64 ((wrap64 ((wrap64 ((shl .i64 1 (ji4)) - 1)) + 1)) * 81) : Int).toNat ≤ 35184372088832 then (spec_l10Left.l0 k a1 a2 (l0_0.length : Int) (wrap64 ((shl .i64 1 (ji4)) - 1)) (List.replicate (wrap64 ((wrap64 ((wrap64 ((shl .i64 1 (ji4)) - 1)) + 1)) * 81) : Int).toNat 0) 0 l0_0) else (none)) else (none)) else (none)) = some r := by first | (rw [hji4] at H; exact H) | (simp only [hji4] at H ⊢; exact H)
 by_cases c5 : 0 ≤ (ji4)
 ·rw [if_pos c5] at H
  have c5b0 := eq_true c5
  have c5b1 : decide (0 ≤ (ji4)) = true := decide_eq_true c5
  clear c5
  obtain ⟨ji6, hji6⟩ : ∃ j_ : Int, (shl .i64 1 (ji4)) = j_ := ⟨_, rfl⟩
  replace H : (if 0 ≤ (wrap64 ((wrap64 ((wrap64 ((ji6) - 1)) + 1)) * 81)) then (if (wrap64 ((wrap64 ((wrap64 ((ji6) - 1)) + 1)) * 81) : Int).toNat ≤ 35184372088832 then (spec_l10Left.l0 k a1 a2 (l0_0.length : Int) (wrap64 ((ji6) - 1)) (List.replicate (wrap64 ((wrap64 ((wrap64 ((ji6) - 1)) + 1)) * 81) : Int).toNat 0) 0 l0_0) else (none)) else (none)) = some r := by first | (rw [hji6] at H; exact H) | (simp only [hji6] at H ⊢; exact H)
  have hji6_ : (IntKind.i64.wrap (1 * 2 ^ min (ji4).toNat 64)) = ji6 := hji6
  have hji6z : (ji4) ≤ 64 → (IntKind.i64.wrap (1 * 2 ^ (ji4).toNat)) = ji6 := shl_small hji6
  have hji6u : (IntKind.i64.wrap (2 ^ min (ji4).toNat 64)) = ji6 := by have h_ := hji6_; rw [Int.one_mul] at h_; exact h_
  have hji6v : (ji4) ≤ 64 → (IntKind.i64.wrap (2 ^ (ji4).toNat)) = ji6 := fun hle_ => by have h_ := hji6z hle_; rw [Int.one_mul] at h_; exact h_
  have hji6y : (wrap64 (1 * 2 ^ min (ji4).toNat 64)) = ji6 := (i64_w _).symm.trans hji6_
  have hji6x : (ji4) ≤ 64 → (wrap64 (1 * 2 ^ (ji4).toNat)) = ji6 := fun h_ => (i64_w _).symm.trans (hji6z h_)
  obtain ⟨ji7, hji7⟩ : ∃ j_ : Int, (wrap64 ((wrap64 ((wrap64 ((ji6) - 1)) + 1)) * 81)) = j_ := ⟨_, rfl⟩
  replace H : (if 0 ≤ (ji7) then (if (ji7 : Int).toNat ≤ 35184372088832 then (spec_l10Left.l0 k a1 a2 (l0_0.length : Int) (wrap64 ((ji6) - 1)) (List.replicate (ji7 : Int).toNat 0) 0 l0_0) else (none)) else (none)) = some r := by first | (rw [hji7] at H; exact H) | (simp only [hji7] at H ⊢; exact H)
  have hji7w : (IntKind.i64.wrap ((wrap64 ((wrap64 ((ji6) - 1)) + 1)) * 81)) = ji7 := (i64_w _).trans hji7
  by_cases c8 : 0 ≤ (ji7)
  ·rw [if_pos c8] at H
   have c8b0 := eq_true c8
   have c8b1 : decide (0 ≤ (ji7)) = true := decide_eq_true c8
   clear c8
   by_cases c9 : (ji7 : Int).toNat ≤ 35184372088832
   ·rw [if_pos c9] at H
    have c9b0 := eq_true c9
    have c9b1 : decide ((ji7 : Int).toNat ≤ 35184372088832) = true := decide_eq_true c9
    clear c9
    obtain ⟨y855, hy855⟩ : ∃ y_ : List Int, y_ = (List.replicate (ji7 : Int).toNat 0) := ⟨_, rfl⟩
    replace H : (spec_l10Left.l0 k a1 a2 (l0_0.length : Int) (wrap64 ((ji6) - 1)) y855 0 l0_0) = some r := by first | (rw [hy855]; with_reducible exact H) | (have H2_ := (Option.bind_some _ _).symm.trans H; rw [hy855]; with_reducible exact H2_) | (have H2_ := (Option.bind_some _ _).symm.trans H; with_reducible exact H2_) | with_reducible exact H | (rw [hy855]; exact H) | exact H
    have Ny855 := Aside0.mk hy855
    clear hy855
    have H' := Aside0.mk H
    clear H
    have hcz10_0 : w.cell? ⟨g0, 0, none⟩ = some (.slice A0_0 l0_0.length c0_0) := (blk_cell BK0.out 0).trans rfl
    have hfz10_0 := blk_frozen BK0.out 0
    go_enter Try.func132, Try.ntmps132
    go_wp2_with (first | ((with_reducible refine gate_dst (N := 30) rfl ?_); refine Kd.R_make (Kd.int .i64) _ 2 rfl (N := 30) rfl 28 _ _ rfl ji7 rfl rfl Try.underlying28 (.int .i64 0) 8 info2 rfl (by decide) (by omega) 0 (ok := fun _ => True) (okp := fun _ => True) rfl (fun _ hk => hk) trivial (of_decide_eq_true (by first | (with_reducible assumption) | assumption)) (Nat.le_trans (Nat.mul_le_mul_right _ (of_decide_eq_true (by first | (with_reducible assumption) | assumption) : ji7.toNat ≤ 35184372088832)) (by omega)) (Below.refl _ _) (Nat.le_refl _) ?_; intro v856 w11 ho12 hb hg_ hnew_; clear hg_ hnew_; (first | rw [← Ny855.out] at ho12 | (simp only [Int.reduceToNat] at ho12; rw [← Ny855.out] at ho12)); have n0_ := Aside0.mk (Kd.R_lower ho12 (below_size (by repeat (first | (with_reducible first | exact HB.out | apply below_alloc | apply pw_below_drewN | apply below_drew1) | exact HB.out)))); have n1_ := Aside0.mk (blk_below (g := g0) (o := .cells #[.slice A0_0 l0_0.length c0_0] 44 (0, 0)) (by (with_reducible repeat first | refine b_N ?_ _ | refine b_D ?_ | refine b_A ?_ _); exact BK0.out) hb); have n2_ := Aside0.mk (below_step (by repeat (first | (with_reducible first | exact HB.out | apply below_alloc | apply pw_below_drewN | apply below_drew1) | exact HB.out)) hb); clear BK0; clear HB; have HO857 := n0_; have BK0 := n1_; have HB := n2_; clear n0_ n1_ n2_; clear hb ho12))
    go_loopg [10] k (fun kq v10 w' => ∃ (x9_1 : List Int) (x10_1 : Int), v10 = .int .i64 x10_1 ∧ Aside0 (spec_l10Left.l0 kq a1 a2 (l0_0.length : Int) (wrap64 ((ji6) - 1)) x9_1 x10_1 l0_0 = some r) ∧ Aside0 (kq ≤ k) ∧ Aside0 (Kd.R (Kd.int .i64) 2 w' w.heap.size (fun _ => True) v856 x9_1) ∧ Aside0 (w'.heap[g0]? = some (.cells #[(.slice A0_0 l0_0.length c0_0)] 44 (0, 0))) ∧ Aside0 (Below w.heap.size w w'))
    case atStart => exact ⟨(y855), (0), (by first | rfl | (simp; done) | (simp [*]; done)), H', ⟨Nat.le_refl _⟩, ⟨by (with_reducible repeat (first | apply Kd.R_alloc | apply Kd.R_drewN | apply Kd.R_drew)); exact HO857.out⟩, ⟨by (with_reducible repeat first | refine b_N ?_ _ | refine b_D ?_ | refine b_A ?_ _); exact BK0.out⟩, ⟨by repeat (first | (with_reducible first | exact HB.out | apply below_alloc | apply pw_below_drewN | apply below_drew1) | exact HB.out)⟩⟩
    case round =>
     clear H'
     try clear c1
     try clear p2
     try clear c5
     try clear c5b0
     try clear c5b1
     try clear p6
     try clear c8
     try clear c8b0
     try clear c8b1
     try clear c9
     try clear c9b0
     try clear c9b1
     try clear hcz10_0
     try clear hfz10_0
     obtain ⟨x9_1, x10_1, rfl, HA, HK1, HO_9, BK0, HB⟩ := hrel
     cases gk with
     | zero => exact absurd HA.out (by simp [spec_l10Left.l0])
     | succ k1 =>
      have H := HA.out
      clear HA
      simp only [spec_l10Left.l0] at H
      by_cases c13 : x10_1 < (x9_1.length : Int)
      ·rw [if_pos c13] at H
       have c13b0 : decide (x10_1 < (x9_1.length : Int)) = true := decide_eq_true c13
       clear c13
       by_cases c14 : 0 ≤ x10_1
       ·rw [if_pos c14] at H
        have c14b0 : decide (0 ≤ x10_1) = true := decide_eq_true c14
        clear c14
        obtain ⟨y858, hy858⟩ : ∃ y_ : List Int, y_ = (x9_1.set (x10_1 : Int).toNat (-1)) := ⟨_, rfl⟩
        replace H : (spec_l10Left.l0 k1 a1 a2 (l0_0.length : Int) (wrap64 ((ji6) - 1)) y858 (wrap64 (x10_1 + 1)) l0_0) = some r := by first | (rw [hy858]; with_reducible exact H) | (have H2_ := (Option.bind_some _ _).symm.trans H; rw [hy858]; with_reducible exact H2_) | (have H2_ := (Option.bind_some _ _).symm.trans H; with_reducible exact H2_) | with_reducible exact H | (rw [hy858]; exact H) | exact H
        have Ny858 := Aside0.mk hy858
        clear hy858
        have H' := Aside0.mk H
        clear H
        obtain ⟨Ao16, co16, eo16⟩ := Kd.R_slice HO_9.out
        subst eo16
        have p15 : 0 ≤ (x10_1 : Int) := of_decide_eq_true (by first | (with_reducible assumption) | assumption)
        have q15 : (x10_1 : Int) < ((x9_1.length : Int) : Int) := of_decide_eq_true (by first | (with_reducible assumption) | assumption)
        obtain ⟨go15, co15, eo15, gb15, gl15, cl15, HG15⟩ := Kd.R_form HO_9.out (by omega)
        (first | cases eo15 | (injection eo15 with ea_ en_ ec_; (first | subst ea_ | (injection ea_ with ea_; subst ea_)); subst ec_; clear en_))
        have GB15 := Aside0.mk gb15
        have GG15 := Aside0.mk HG15
        clear gb15 gl15 HG15
        obtain ⟨hx15_0, hf15_0⟩ := Kd.R_celln 0 HO_9.out (x10_1 : Int) p15 q15
        replace p15 := eq_true p15
        replace q15 := eq_true q15
        have HP17 := Kd.R_putg HO_9.out (x10_1 : Int) (-1)
        go_wp2_with (first | ((with_reducible refine gate_store (t := 2) (p := 39) rfl ?_); refine store_event (t := 2) (p := 39) (v := ?vo_w18) (w1 := (wr.setCell ⟨go15, (x10_1 : Int).toNat, none⟩ (.int .i64 (-1)))) ?hg ?ho ?hn ?hr ?_; (case ho => rfl); (case hg => rfl); (case hn => rfl); (case hr => first | (go_simp; done) | (go_simp; rfl)); intro w18 hw; have hg : wr.grownBy w18 (some go15) := (by rw [hw]; exact HP17.2); have hp_ : Kd.R (Kd.int .i64) 2 w18 w.heap.size (fun _ => True) (.slice (some ⟨go15, 0, none⟩) x9_1.length co16) y858 := (by rw [hw, Ny858.out]; exact HP17.1); clear HP17; have n0_ := Aside0.mk (hp_); have n1_ := Aside0.mk (blk_grown (g := g0) (o := .cells #[.slice A0_0 l0_0.length c0_0] 44 (0, 0)) (by (with_reducible repeat first | refine b_N ?_ _ | refine b_D ?_ | refine b_A ?_ _); exact BK0.out) hg (Kd.R_ne HO_9.out BK0.out (by decide))); have n2_ := Aside0.mk ((by rw [hw]; exact below_set (HB.out) GB15.out : Below w.heap.size w w18)); clear HO_9; clear BK0; clear HB; have HO_9 := n0_; have BK0 := n1_; have HB := n2_; clear n0_ n1_ n2_; clear hg hw hp_))
        go_roundg k1
        case measure => have := HK1.out; omega
        case rel => exact ⟨(y858), (wrap64 (x10_1 + 1)), (by first | rfl | (simp; done) | (simp [*]; done)), H', ⟨by have := HK1.out; omega⟩, ⟨by (with_reducible repeat (first | apply Kd.R_alloc | apply Kd.R_drewN | apply Kd.R_drew)); exact HO_9.out⟩, ⟨by (with_reducible repeat first | refine b_N ?_ _ | refine b_D ?_ | refine b_A ?_ _); exact BK0.out⟩, ⟨by repeat (first | (with_reducible first | exact HB.out | apply below_alloc | apply pw_below_drewN | apply below_drew1) | exact HB.out)⟩⟩
       ·rw [if_neg c14] at H
        exact absurd H (by simp)
      ·rw [if_neg c13] at H
       have c13b0 : decide (x10_1 < (x9_1.length : Int)) = false := decide_eq_false c13
       clear c13
       have H' := Aside0.mk H
       clear H
       obtain ⟨Ao19, co19, eo19⟩ := Kd.R_slice HO_9.out
       subst eo19
       go_wp2
       go_loopg [11] k1 (fun kq v11 w' => ∃ (x9_2 : List Int) (x11_2 : Int), v11 = .int .i64 x11_2 ∧ Aside0 (spec_l10Left.l1 kq a1 a2 (l0_0.length : Int) (wrap64 ((ji6) - 1)) x9_2 x11_2 l0_0 = some r) ∧ Aside0 (kq ≤ k1) ∧ Aside0 (Kd.R (Kd.int .i64) 2 w' w.heap.size (fun _ => True) (.slice Ao19 x9_1.length co19) x9_2) ∧ Aside0 (w'.heap[g0]? = some (.cells #[(.slice A0_0 l0_0.length c0_0)] 44 (0, 0))) ∧ Aside0 (Below w.heap.size w w'))
       case atStart => exact ⟨(x9_1), ((wrap64 ((ji6) - 1))), (by first | rfl | (simp; done) | (simp only [← hji6] <;> (first | rfl | simp)) | (simp [*]; done)), H', ⟨Nat.le_refl _⟩, ⟨by (with_reducible repeat (first | apply Kd.R_alloc | apply Kd.R_drewN | apply Kd.R_drew)); exact HO_9.out⟩, ⟨by (with_reducible repeat first | refine b_N ?_ _ | refine b_D ?_ | refine b_A ?_ _); exact BK0.out⟩, ⟨by repeat (first | (with_reducible first | exact HB.out | apply below_alloc | apply pw_below_drewN | apply below_drew1) | exact HB.out)⟩⟩
       case round =>
        clear H'
        try clear c1
        try clear p1
        try clear q1
        try clear hx1
        try clear p2
        try clear c5
        try clear c5b0
        try clear c5b1
        try clear p6
        try clear c8
        try clear c8b0
        try clear c8b1
        try clear c9
        try clear c9b0
        try clear c9b1
        try clear c13
        try clear c13b0
        try clear c14
        try clear c14b0
        try clear p15
        try clear q15
        try clear hx15
        try clear hf15
        try clear hcz10_0
        try clear hfz10_0
        try clear hx15_0
        try clear p15
        try clear p2
        try clear p6
        try clear q15
        obtain ⟨x9_2, x11_2, rfl, HA, HK2, HO_9, BK0, HB⟩ := hrel
        have hl9_2 := (Kd.R_reads' HO_9.out).1
        rw [hl9_2] at HO_9
        (try simp only [hl9_2])
        (try simp only [hl9_2] at BK0)
        cases gk with
        | zero => exact absurd HA.out (by simp [spec_l10Left.l1])
        | succ k2 =>
         have H := HA.out
         clear HA
         simp only [spec_l10Left.l1] at H
         by_cases c20 : x11_2 > 0
         ·rw [if_pos c20] at H
          have c20b0 : decide (0 < x11_2) = true := decide_eq_true c20
          clear c20
          have H' := Aside0.mk H
          clear H
          go_wp2
          go_loopg [12] k2 (fun kq v12 w' => ∃ (x9_3 : List Int) (x12_3 : Int), v12 = .int .i64 x12_3 ∧ Aside0 (spec_l10Left.l2 kq a1 a2 (l0_0.length : Int) (wrap64 ((ji6) - 1)) x9_3 x11_2 x12_3 l0_0 = some r) ∧ Aside0 (kq ≤ k2) ∧ Aside0 (Kd.R (Kd.int .i64) 2 w' w.heap.size (fun _ => True) (.slice Ao19 x9_2.length co19) x9_3) ∧ Aside0 (w'.heap[g0]? = some (.cells #[(.slice A0_0 l0_0.length c0_0)] 44 (0, 0))) ∧ Aside0 (Below w.heap.size w w'))
          case atStart => exact ⟨(x9_2), (0), (by first | rfl | (simp; done) | (simp [*]; done)), H', ⟨Nat.le_refl _⟩, ⟨by (try simp only [hl9_2]); (with_reducible repeat (first | apply Kd.R_alloc | apply Kd.R_drewN | apply Kd.R_drew)); exact HO_9.out⟩, ⟨by (try simp only [hl9_2]); (with_reducible repeat first | refine b_N ?_ _ | refine b_D ?_ | refine b_A ?_ _); exact BK0.out⟩, ⟨by repeat (first | (with_reducible first | exact HB.out | apply below_alloc | apply pw_below_drewN | apply below_drew1) | exact HB.out)⟩⟩
          case round =>
           clear H'
           try clear c1
           try clear p1
           try clear q1
           try clear hx1
           try clear c2
           try clear p2
           try clear c5
           try clear c5b0
           try clear c5b1
           try clear p6
           try clear c8
           try clear c8b0
           try clear c8b1
           try clear c9
           try clear c9b0
           try clear c9b1
           try clear c13
           try clear c13b0
           try clear c14
           try clear c14b0
           try clear p15
           try clear q15
           try clear hx15
           try clear hf15
           try clear c20
           try clear c20b0
           try clear hcz10_0
           try clear hfz10_0
           try clear hx15_0
           try clear p1
           try clear p15
           try clear p2
           try clear p6
           try clear q1
           try clear q15
           obtain ⟨x9_3, x12_3, rfl, HA, HK3, HO_9, BK0, HB⟩ := hrel
           have hl9_3 := (Kd.R_reads' HO_9.out).1
           rw [hl9_3] at HO_9
           (try simp only [hl9_3])
           (try simp only [hl9_3] at BK0)
           cases gk with
           | zero => exact absurd HA.out (by simp [spec_l10Left.l2])
           | succ k3 =>
            have H := HA.out
            clear HA
            simp only [spec_l10Left.l2] at H
            by_cases c21 : x12_3 < (l0_0.length : Int)
            ·rw [if_pos c21] at H
             have c21b0 : decide (x12_3 < (l0_0.length : Int)) = true := decide_eq_true c21
             clear c21
             obtain ⟨ji22, hji22⟩ : ∃ j_ : Int, (IntKind.u64.wrap (x12_3)) = j_ := ⟨_, rfl⟩
             replace H : (if 0 ≤ (ji22) then (if (Go.bits .and .i64 (shr .i64 x11_2 (ji22)) 1) = 0 then (spec_l10Left.l2 k3 a1 a2 (l0_0.length : Int) (wrap64 ((ji6) - 1)) x9_3 x11_2 (wrap64 (x12_3 + 1)) l0_0) else (spec_l10Left.l3 k3 a1 a2 (l0_0.length : Int) (wrap64 ((ji6) - 1)) x9_3 x11_2 x12_3 0 l0_0)) else (none)) = some r := by first | (rw [hji22] at H; exact H) | (simp only [hji22] at H ⊢; exact H)
             by_cases c23 : 0 ≤ (ji22)
             ·rw [if_pos c23] at H
              have c23b0 := eq_true c23
              have c23b1 : decide (0 ≤ (ji22)) = true := decide_eq_true c23
              clear c23
              obtain ⟨ji24, hji24⟩ : ∃ j_ : Int, (shr .i64 x11_2 (ji22)) = j_ := ⟨_, rfl⟩
              replace H : (if (Go.bits .and .i64 (ji24) 1) = 0 then (spec_l10Left.l2 k3 a1 a2 (l0_0.length : Int) (wrap64 ((ji6) - 1)) x9_3 x11_2 (wrap64 (x12_3 + 1)) l0_0) else (spec_l10Left.l3 k3 a1 a2 (l0_0.length : Int) (wrap64 ((ji6) - 1)) x9_3 x11_2 x12_3 0 l0_0)) = some r := by first | (rw [hji24] at H; exact H) | (simp only [hji24] at H ⊢; exact H)
              have hji24_ : (x11_2 / 2 ^ min (ji22).toNat 64) = ji24 := hji24
              have hji24z : (ji22) ≤ 64 → (x11_2 / 2 ^ (ji22).toNat) = ji24 := shr_small hji24
              by_cases c25 : (Go.bits .and .i64 (ji24) 1) = 0
              ·rw [if_pos c25] at H
               have c25b0 : ((Go.bits .and .i64 (ji24) 1) == 0) = true := beq_iff_eq.mpr c25
               have c25b1 : ((Go.bits .and .i64 (ji24) 1) != 0) = false := bne_eq_false_iff_eq.mpr c25
               clear c25
               have H' := Aside0.mk H
               clear H
               go_wp2
               (try simp only [← hl9_3])
               go_roundg k3
               case measure => have := HK1.out; have := HK2.out; have := HK3.out; omega
               case rel => exact ⟨(x9_3), (wrap64 (x12_3 + 1)), (by first | rfl | (simp; done) | (simp [*]; done)), H', ⟨by have := HK1.out; have := HK2.out; have := HK3.out; omega⟩, ⟨by (try simp only [hl9_2]); (try simp only [hl9_3]); (with_reducible repeat (first | apply Kd.R_alloc | apply Kd.R_drewN | apply Kd.R_drew)); exact HO_9.out⟩, ⟨by (try simp only [hl9_2]); (try simp only [hl9_3]); (with_reducible repeat first | refine b_N ?_ _ | refine b_D ?_ | refine b_A ?_ _); exact BK0.out⟩, ⟨by repeat (first | (with_reducible first | exact HB.out | apply below_alloc | apply pw_below_drewN | apply below_drew1) | exact HB.out)⟩⟩
              ·rw [if_neg c25] at H
               have c25b0 : ((Go.bits .and .i64 (ji24) 1) == 0) = false := beq_eq_false_iff_ne.mpr c25
               have c25b1 : ((Go.bits .and .i64 (ji24) 1) != 0) = true := bne_iff_ne.mpr c25
               have H' := Aside0.mk H
               clear H
               go_wp2
               go_loopg [13] k3 (fun kq v13 w' => ∃ (x9_4 : List Int) (x13_4 : Int), v13 = .int .i64 x13_4 ∧ Aside0 (spec_l10Left.l3 kq a1 a2 (l0_0.length : Int) (wrap64 ((ji6) - 1)) x9_4 x11_2 x12_3 x13_4 l0_0 = some r) ∧ Aside0 (kq ≤ k3) ∧ Aside0 (Kd.R (Kd.int .i64) 2 w' w.heap.size (fun _ => True) (.slice Ao19 x9_3.length co19) x9_4) ∧ Aside0 (w'.heap[g0]? = some (.cells #[(.slice A0_0 l0_0.length c0_0)] 44 (0, 0))) ∧ Aside0 (Below w.heap.size w w'))
               case atStart => exact ⟨(x9_3), (0), (by first | rfl | (simp; done) | (simp [*]; done)), H', ⟨Nat.le_refl _⟩, ⟨by (try simp only [hl9_2]); (try simp only [hl9_3]); (with_reducible repeat (first | apply Kd.R_alloc | apply Kd.R_drewN | apply Kd.R_drew)); exact HO_9.out⟩, ⟨by (try simp only [hl9_2]); (try simp only [hl9_3]); (with_reducible repeat first | refine b_N ?_ _ | refine b_D ?_ | refine b_A ?_ _); exact BK0.out⟩, ⟨by repeat (first | (with_reducible first | exact HB.out | apply below_alloc | apply pw_below_drewN | apply below_drew1) | exact HB.out)⟩⟩
               case round =>
                clear H'
                try clear c1
                try clear p1
                try clear q1
                try clear hx1
                try clear c2
                try clear p2
                try clear c5
                try clear c5b0
                try clear c5b1
                try clear p6
                try clear c8
                try clear c8b0
                try clear c8b1
                try clear c9
                try clear c9b0
                try clear c9b1
                try clear c13
                try clear c13b0
                try clear c14
                try clear c14b0
                try clear p15
                try clear q15
                try clear hx15
                try clear hf15
                try clear c20
                try clear c20b0
                try clear c21
                try clear c21b0
                try clear c23
                try clear c23b0
                try clear c23b1
                try clear c25
                try clear c25b0
                try clear c25b1
                try clear hcz10_0
                try clear hfz10_0
                try clear hx15_0
                try clear p1
                try clear p15
                try clear p2
                try clear p6
                try clear q1
                try clear q15
                obtain ⟨x9_4, x13_4, rfl, HA, HK4, HO_9, BK0, HB⟩ := hrel
                have hl9_4 := (Kd.R_reads' HO_9.out).1
                rw [hl9_4] at HO_9
                (try simp only [hl9_4])
                (try simp only [hl9_4] at BK0)
                cases gk with
                | zero => exact absurd HA.out (by simp [spec_l10Left.l3])
                | succ k4 =>
                 have H := HA.out
                 clear HA
                 simp only [spec_l10Left.l3] at H
                 by_cases c26 : x13_4 ≤ a1
                 ·rw [if_pos c26] at H
                  have c26b0 : decide (x13_4 ≤ a1) = true := decide_eq_true c26
                  clear c26
                  by_cases c27 : x11_2 = (wrap64 ((ji6) - 1))
                  ·rw [if_pos c27] at H
                   have c27b0 : (x11_2 == (wrap64 ((ji6) - 1))) = true := beq_iff_eq.mpr c27
                   have c27b1 : (x11_2 != (wrap64 ((ji6) - 1))) = false := bne_eq_false_iff_eq.mpr c27
                   clear c27
                   have HC28 := Aside0.mk H
                   clear H
                   go_upto_region 20 with (fail)
                   go_cut [81] (fun v81 wc => ∃ (kq : Nat) (x81_27 : Bool), v81 = .bool x81_27 ∧ Aside0 (spec_l10Left.j4 kq a1 a2 (l0_0.length : Int) (wrap64 ((ji6) - 1)) x9_4 x11_2 x12_3 x13_4 (wrap64 ((wrap64 ((wrap64 ((wrap64 (x11_2 * 9)) + x12_3)) * 9)) + x13_4)) x81_27 l0_0 = some r) ∧ Aside0 (kq ≤ k4) ∧ Aside0 (Kd.R (Kd.int .i64) 2 wc w.heap.size (fun _ => True) (.slice Ao19 x9_4.length co19) x9_4) ∧ Aside0 (wc.heap[g0]? = some (.cells #[(.slice A0_0 l0_0.length c0_0)] 44 (0, 0))) ∧ Aside0 (Below w.heap.size w wc))
                   case first =>
                    have H := HC28.out
                    clear HC28
                    by_cases c29 : x13_4 = 0
                    ·rw [if_pos c29] at H
                     have c29b0 : (x13_4 == 0) = true := beq_iff_eq.mpr c29
                     have c29b1 : (x13_4 != 0) = false := bne_eq_false_iff_eq.mpr c29
                     clear c29
                     (first | rw [c29b0] | (simp only [i64_w, i32_w]; rw [c29b0]) | skip)
                     by_cases c30 : a2 < 0
                     ·rw [if_pos c30] at H
                      have c30b0 : decide (a2 < 0) = true := decide_eq_true c30
                      clear c30
                      have H' := Aside0.mk H
                      clear H
                      go_wp2
                      go_meet
                      case rel => exact ⟨_, (true), (by first | rfl | (simp; done) | (simp [*]; done)), H', ⟨by have := HK1.out; have := HK2.out; have := HK3.out; have := HK4.out; first | omega | exact Nat.le_refl _⟩, ⟨by (try simp only [hl9_2]); (try simp only [hl9_3]); (try simp only [hl9_4]); (with_reducible repeat (first | apply Kd.R_alloc | apply Kd.R_drewN | apply Kd.R_drew)); exact HO_9.out⟩, ⟨by (try simp only [hl9_2]); (try simp only [hl9_3]); (try simp only [hl9_4]); (with_reducible repeat first | refine b_N ?_ _ | refine b_D ?_ | refine b_A ?_ _); exact BK0.out⟩, ⟨by repeat (first | (with_reducible first | exact HB.out | apply below_alloc | apply pw_below_drewN | apply below_drew1) | exact HB.out)⟩⟩
                     ·rw [if_neg c30] at H
                      have c30b0 : decide (a2 < 0) = false := decide_eq_false c30
                      clear c30
                      have H' := Aside0.mk H
                      clear H
                      go_wp2
                      go_meet
                      case rel => exact ⟨_, ((x12_3 == a2)), (by first | rfl | (simp; done) | (simp [*]; done)), H', ⟨by have := HK1.out; have := HK2.out; have := HK3.out; have := HK4.out; first | omega | exact Nat.le_refl _⟩, ⟨by (try simp only [hl9_2]); (try simp only [hl9_3]); (try simp only [hl9_4]); (with_reducible repeat (first | apply Kd.R_alloc | apply Kd.R_drewN | apply Kd.R_drew)); exact HO_9.out⟩, ⟨by (try simp only [hl9_2]); (try simp only [hl9_3]); (try simp only [hl9_4]); (with_reducible repeat first | refine b_N ?_ _ | refine b_D ?_ | refine b_A ?_ _); exact BK0.out⟩, ⟨by repeat (first | (with_reducible first | exact HB.out | apply below_alloc | apply pw_below_drewN | apply below_drew1) | exact HB.out)⟩⟩
                    ·rw [if_neg c29] at H
                     have c29b0 : (x13_4 == 0) = false := beq_eq_false_iff_ne.mpr c29
                     have c29b1 : (x13_4 != 0) = true := bne_iff_ne.mpr c29
                     (first | rw [c29b0] | (simp only [i64_w, i32_w]; rw [c29b0]) | skip)
                     have H' := Aside0.mk H
                     clear H
                     go_wp2
                     go_meet
                     case rel => exact ⟨_, (false), (by first | rfl | (simp; done) | (simp [*]; done)), H', ⟨by have := HK1.out; have := HK2.out; have := HK3.out; have := HK4.out; first | omega | exact Nat.le_refl _⟩, ⟨by (try simp only [hl9_2]); (try simp only [hl9_3]); (try simp only [hl9_4]); (with_reducible repeat (first | apply Kd.R_alloc | apply Kd.R_drewN | apply Kd.R_drew)); exact HO_9.out⟩, ⟨by (try simp only [hl9_2]); (try simp only [hl9_3]); (try simp only [hl9_4]); (with_reducible repeat first | refine b_N ?_ _ | refine b_D ?_ | refine b_A ?_ _); exact BK0.out⟩, ⟨by repeat (first | (with_reducible first | exact HB.out | apply below_alloc | apply pw_below_drewN | apply below_drew1) | exact HB.out)⟩⟩
                   case rest =>
                    clear HC28
                    try clear c1
                    try clear p1
                    try clear q1
                    try clear hx1
                    try clear c2
                    try clear p2
                    try clear c3
                    try clear c5
                    try clear c5b0
                    try clear c5b1
                    try clear p6
                    try clear c8
                    try clear c8b0
                    try clear c8b1
                    try clear c9
                    try clear c9b0
                    try clear c9b1
                    try clear c13
                    try clear c13b0
                    try clear c14
                    try clear c14b0
                    try clear p15
                    try clear q15
                    try clear hx15
                    try clear hf15
                    try clear c20
                    try clear c20b0
                    try clear c21
                    try clear c21b0
                    try clear c23
                    try clear c23b0
                    try clear c23b1
                    try clear c25
                    try clear c25b0
                    try clear c25b1
                    try clear c26
                    try clear c26b0
                    try clear c27
                    try clear c27b0
                    try clear c27b1
                    try clear c29
                    try clear c29b0
                    try clear c29b1
                    try clear c30
                    try clear c30b0
                    try clear hcz10_0
                    try clear hfz10_0
                    try clear hx15_0
                    try clear p1
                    try clear p15
                    try clear p2
                    try clear p6
                    try clear q1
                    try clear q15
                    obtain ⟨kq, x81_27, rfl, HA, HJ27, HO_9, BK0, HB⟩ := hcut
                    cases kq with
                    | zero => exact absurd HA.out (by simp [spec_l10Left.j4])
                    | succ kj27 =>
                     have H := HA.out
                     clear HA
                     simp only [spec_l10Left.j4] at H
                     by_cases c31 : x81_27 = true
                     ·subst c31
                      have H1 : (if 0 ≤ (wrap64 ((wrap64 ((wrap64 ((wrap64 (x11_2 * 9)) + x12_3)) * 9)) + x13_4)) then (if (wrap64 ((wrap64 ((wrap64 ((wrap64 (x11_2 * 9)) + x12_3)) * 9)) + x13_4)) < (x9_4.length : Int) then (spec_l10Left.l3 kj27 a1 a2 (l0_0.length : Int) (wrap64 ((ji6) - 1)) (x9_4.set ((wrap64 ((wrap64 ((wrap64 ((wrap64 (x11_2 * 9)) + x12_3)) * 9)) + x13_4)) : Int).toNat 0) x11_2 x12_3 (wrap64 (x13_4 + 1)) l0_0) else (none)) else (none)) = some r := by rw [if_pos rfl] at H; exact H
                      clear H
                      have H := H1
                      clear H1
                      obtain ⟨ji32, hji32⟩ : ∃ j_ : Int, (wrap64 ((wrap64 ((wrap64 ((wrap64 (x11_2 * 9)) + x12_3)) * 9)) + x13_4)) = j_ := ⟨_, rfl⟩
                      replace H : (if 0 ≤ (ji32) then (if (ji32) < (x9_4.length : Int) then (spec_l10Left.l3 kj27 a1 a2 (l0_0.length : Int) (wrap64 ((ji6) - 1)) (x9_4.set ((ji32) : Int).toNat 0) x11_2 x12_3 (wrap64 (x13_4 + 1)) l0_0) else (none)) else (none)) = some r := by first | (rw [hji32] at H; exact H) | (simp only [hji32] at H ⊢; exact H)
                      have hji32w : (IntKind.i64.wrap ((wrap64 ((wrap64 ((wrap64 (x11_2 * 9)) + x12_3)) * 9)) + x13_4)) = ji32 := (i64_w _).trans hji32
                      by_cases c33 : 0 ≤ (ji32)
                      ·rw [if_pos c33] at H
                       have c33b0 : decide (0 ≤ (ji32)) = true := decide_eq_true c33
                       clear c33
                       by_cases c34 : (ji32) < (x9_4.length : Int)
                       ·rw [if_pos c34] at H
                        have c34b0 : decide ((ji32) < (x9_4.length : Int)) = true := decide_eq_true c34
                        clear c34
                        obtain ⟨y859, hy859⟩ : ∃ y_ : List Int, y_ = (x9_4.set ((ji32) : Int).toNat 0) := ⟨_, rfl⟩
                        replace H : (spec_l10Left.l3 kj27 a1 a2 (l0_0.length : Int) (wrap64 ((ji6) - 1)) y859 x11_2 x12_3 (wrap64 (x13_4 + 1)) l0_0) = some r := by first | (rw [hy859]; with_reducible exact H) | (have H2_ := (Option.bind_some _ _).symm.trans H; rw [hy859]; with_reducible exact H2_) | (have H2_ := (Option.bind_some _ _).symm.trans H; with_reducible exact H2_) | with_reducible exact H | (rw [hy859]; exact H) | exact H
                        have Ny859 := Aside0.mk hy859
                        clear hy859
                        have H' := Aside0.mk H
                        clear H
                        have p35 : 0 ≤ ((ji32) : Int) := of_decide_eq_true (by first | (with_reducible assumption) | assumption)
                        have q35 : ((ji32) : Int) < ((x9_4.length : Int) : Int) := of_decide_eq_true (by first | (with_reducible assumption) | assumption)
                        obtain ⟨go35, co35, eo35, gb35, gl35, cl35, HG35⟩ := Kd.R_form HO_9.out (by omega)
                        (first | cases eo35 | (injection eo35 with ea_ en_ ec_; (first | subst ea_ | (injection ea_ with ea_; subst ea_)); subst ec_; clear en_))
                        have GB35 := Aside0.mk gb35
                        have GG35 := Aside0.mk HG35
                        clear gb35 gl35 HG35
                        obtain ⟨hx35_0, hf35_0⟩ := Kd.R_celln 0 HO_9.out ((ji32) : Int) p35 q35
                        replace p35 := eq_true p35
                        replace q35 := eq_true q35
                        have HP36 := Kd.R_putg HO_9.out ((ji32) : Int) 0
                        go_wp2_with (first | ((with_reducible refine gate_store (t := 2) (p := 84) rfl ?_); refine store_event (t := 2) (p := 84) (v := ?vo_w37) (w1 := (wc.setCell ⟨go35, ((ji32) : Int).toNat, none⟩ (.int .i64 0))) ?hg ?ho ?hn ?hr ?_; (case ho => rfl); (case hg => rfl); (case hn => rfl); (case hr => first | (go_simp; done) | (go_simp; rfl)); intro w37 hw; have hg : wc.grownBy w37 (some go35) := (by rw [hw]; exact HP36.2); have hp_ : Kd.R (Kd.int .i64) 2 w37 w.heap.size (fun _ => True) (.slice (some ⟨go35, 0, none⟩) x9_4.length co19) y859 := (by rw [hw, Ny859.out]; exact HP36.1); clear HP36; have n0_ := Aside0.mk (hp_); have n1_ := Aside0.mk (blk_grown (g := g0) (o := .cells #[.slice A0_0 l0_0.length c0_0] 44 (0, 0)) (by (with_reducible repeat first | refine b_N ?_ _ | refine b_D ?_ | refine b_A ?_ _); exact BK0.out) hg (Kd.R_ne HO_9.out BK0.out (by decide))); have n2_ := Aside0.mk ((by rw [hw]; exact below_set (HB.out) GB35.out : Below w.heap.size w w37)); clear HO_9; clear BK0; clear HB; have HO_9 := n0_; have BK0 := n1_; have HB := n2_; clear n0_ n1_ n2_; clear hg hw hp_))
                        (try simp only [← hl9_4])
                        go_roundg kj27
                        case measure => have := HK1.out; have := HK2.out; have := HK3.out; have := HK4.out; have := HJ27.out; omega
                        case rel => exact ⟨(y859), (wrap64 (x13_4 + 1)), (by first | rfl | (simp; done) | (simp [*]; done)), H', ⟨by have := HK1.out; have := HK2.out; have := HK3.out; have := HK4.out; have := HJ27.out; omega⟩, ⟨by (try simp only [hl9_2]); (try simp only [hl9_3]); (try simp only [hl9_4]); (with_reducible repeat (first | apply Kd.R_alloc | apply Kd.R_drewN | apply Kd.R_drew)); exact HO_9.out⟩, ⟨by (try simp only [hl9_2]); (try simp only [hl9_3]); (try simp only [hl9_4]); (with_reducible repeat first | refine b_N ?_ _ | refine b_D ?_ | refine b_A ?_ _); exact BK0.out⟩, ⟨by repeat (first | (with_reducible first | exact HB.out | apply below_alloc | apply pw_below_drewN | apply below_drew1) | exact HB.out)⟩⟩
                       ·rw [if_neg c34] at H
                        exact absurd H (by simp)
                      ·rw [if_neg c33] at H
                       exact absurd H (by simp)
                     ·replace c31 := Bool.eq_false_iff.mpr c31
                      subst c31
                      have H1 : (spec_l10Left.l3 kj27 a1 a2 (l0_0.length : Int) (wrap64 ((ji6) - 1)) x9_4 x11_2 x12_3 (wrap64 (x13_4 + 1)) l0_0) = some r := by rw [if_neg (show ¬ (false = true) by decide)] at H; exact H
                      clear H
                      have H := H1
                      clear H1
                      have H' := Aside0.mk H
                      clear H
                      go_wp2
                      (try simp only [← hl9_4])
                      go_roundg kj27
                      case measure => have := HK1.out; have := HK2.out; have := HK3.out; have := HK4.out; have := HJ27.out; omega
                      case rel => exact ⟨(x9_4), (wrap64 (x13_4 + 1)), (by first | rfl | (simp; done) | (simp [*]; done)), H', ⟨by have := HK1.out; have := HK2.out; have := HK3.out; have := HK4.out; have := HJ27.out; omega⟩, ⟨by (try simp only [hl9_2]); (try simp only [hl9_3]); (try simp only [hl9_4]); (with_reducible repeat (first | apply Kd.R_alloc | apply Kd.R_drewN | apply Kd.R_drew)); exact HO_9.out⟩, ⟨by (try simp only [hl9_2]); (try simp only [hl9_3]); (try simp only [hl9_4]); (with_reducible repeat first | refine b_N ?_ _ | refine b_D ?_ | refine b_A ?_ _); exact BK0.out⟩, ⟨by repeat (first | (with_reducible first | exact HB.out | apply below_alloc | apply pw_below_drewN | apply below_drew1) | exact HB.out)⟩⟩
                  ·rw [if_neg c27] at H
                   have c27b0 : (x11_2 == (wrap64 ((ji6) - 1))) = false := beq_eq_false_iff_ne.mpr c27
                   have c27b1 : (x11_2 != (wrap64 ((ji6) - 1))) = true := bne_iff_ne.mpr c27
                   have H' := Aside0.mk H
                   clear H
                   go_wp2
                   go_loopg [15] k4 (fun kq v15 w' => ∃ (x9_5 : List Int) (x15_5 : Int), v15 = .int .i64 x15_5 ∧ Aside0 (spec_l10Left.l4 kq a1 a2 (l0_0.length : Int) (wrap64 ((ji6) - 1)) x9_5 x11_2 x12_3 x13_4 (wrap64 ((wrap64 ((wrap64 ((wrap64 (x11_2 * 9)) + x12_3)) * 9)) + x13_4)) x15_5 l0_0 = some r) ∧ Aside0 (kq ≤ k4) ∧ Aside0 (Kd.R (Kd.int .i64) 2 w' w.heap.size (fun _ => True) (.slice Ao19 x9_4.length co19) x9_5) ∧ Aside0 (w'.heap[g0]? = some (.cells #[(.slice A0_0 l0_0.length c0_0)] 44 (0, 0))) ∧ Aside0 (Below w.heap.size w w'))
                   case atStart => exact ⟨(x9_4), (0), (by first | rfl | (simp; done) | (simp [*]; done)), H', ⟨Nat.le_refl _⟩, ⟨by (try simp only [hl9_2]); (try simp only [hl9_3]); (try simp only [hl9_4]); (with_reducible repeat (first | apply Kd.R_alloc | apply Kd.R_drewN | apply Kd.R_drew)); exact HO_9.out⟩, ⟨by (try simp only [hl9_2]); (try simp only [hl9_3]); (try simp only [hl9_4]); (with_reducible repeat first | refine b_N ?_ _ | refine b_D ?_ | refine b_A ?_ _); exact BK0.out⟩, ⟨by repeat (first | (with_reducible first | exact HB.out | apply below_alloc | apply pw_below_drewN | apply below_drew1) | exact HB.out)⟩⟩
                   case round =>
                    clear H'
                    try clear c1
                    try clear p1
                    try clear q1
                    try clear hx1
                    try clear c2
                    try clear p2
                    try clear c3
                    try clear p3
                    try clear q3
                    try clear hx3
                    try clear hf3
                    try clear c5
                    try clear c5b0
                    try clear c5b1
                    try clear p6
                    try clear c8
                    try clear c8b0
                    try clear c8b1
                    try clear c9
                    try clear c9b0
                    try clear c9b1
                    try clear c13
                    try clear c13b0
                    try clear c14
                    try clear c14b0
                    try clear p15
                    try clear q15
                    try clear hx15
                    try clear hf15
                    try clear c20
                    try clear c20b0
                    try clear c21
                    try clear c21b0
                    try clear c23
                    try clear c23b0
                    try clear c23b1
                    try clear c25
                    try clear c25b0
                    try clear c25b1
                    try clear c26
                    try clear c26b0
                    try clear c27
                    try clear c27b0
                    try clear c27b1
                    try clear c29
                    try clear c29b0
                    try clear c29b1
                    try clear c30
                    try clear c30b0
                    try clear c31
                    try clear c33
                    try clear c33b0
                    try clear c34
                    try clear c34b0
                    try clear p35
                    try clear q35
                    try clear hx35
                    try clear hf35
                    try clear hcz10_0
                    try clear hfz10_0
                    try clear hx15_0
                    try clear hx35_0
                    try clear p1
                    try clear p15
                    try clear p2
                    try clear p35
                    try clear p6
                    try clear q1
                    try clear q15
                    try clear q35
                    obtain ⟨x9_5, x15_5, rfl, HA, HK5, HO_9, BK0, HB⟩ := hrel
                    have hl9_5 := (Kd.R_reads' HO_9.out).1
                    rw [hl9_5] at HO_9
                    (try simp only [hl9_5])
                    (try simp only [hl9_5] at BK0)
                    cases gk with
                    | zero => exact absurd HA.out (by simp [spec_l10Left.l4])
                    | succ k5 =>
                     have H := HA.out
                     clear HA
                     simp only [spec_l10Left.l4] at H
                     by_cases c38 : x15_5 < (l0_0.length : Int)
                     ·rw [if_pos c38] at H
                      have c38b0 : decide (x15_5 < (l0_0.length : Int)) = true := decide_eq_true c38
                      clear c38
                      obtain ⟨ji39, hji39⟩ : ∃ j_ : Int, (IntKind.u64.wrap (x15_5)) = j_ := ⟨_, rfl⟩
                      replace H : (if 0 ≤ (ji39) then (if (Go.bits .and .i64 (shr .i64 x11_2 (ji39)) 1) = 1 then (spec_l10Left.l4 k5 a1 a2 (l0_0.length : Int) (wrap64 ((ji6) - 1)) x9_5 x11_2 x12_3 x13_4 (wrap64 ((wrap64 ((wrap64 ((wrap64 (x11_2 * 9)) + x12_3)) * 9)) + x13_4)) (wrap64 (x15_5 + 1)) l0_0) else (spec_l10Left.l5 k5 a1 a2 (l0_0.length : Int) (wrap64 ((ji6) - 1)) x9_5 x11_2 x12_3 x13_4 (wrap64 ((wrap64 ((wrap64 ((wrap64 (x11_2 * 9)) + x12_3)) * 9)) + x13_4)) x15_5 0 l0_0)) else (none)) = some r := by first | (rw [hji39] at H; exact H) | (simp only [hji39] at H ⊢; exact H)
                      by_cases c40 : 0 ≤ (ji39)
                      ·rw [if_pos c40] at H
                       have c40b0 := eq_true c40
                       have c40b1 : decide (0 ≤ (ji39)) = true := decide_eq_true c40
                       clear c40
                       obtain ⟨ji41, hji41⟩ : ∃ j_ : Int, (shr .i64 x11_2 (ji39)) = j_ := ⟨_, rfl⟩
                       replace H : (if (Go.bits .and .i64 (ji41) 1) = 1 then (spec_l10Left.l4 k5 a1 a2 (l0_0.length : Int) (wrap64 ((ji6) - 1)) x9_5 x11_2 x12_3 x13_4 (wrap64 ((wrap64 ((wrap64 ((wrap64 (x11_2 * 9)) + x12_3)) * 9)) + x13_4)) (wrap64 (x15_5 + 1)) l0_0) else (spec_l10Left.l5 k5 a1 a2 (l0_0.length : Int) (wrap64 ((ji6) - 1)) x9_5 x11_2 x12_3 x13_4 (wrap64 ((wrap64 ((wrap64 ((wrap64 (x11_2 * 9)) + x12_3)) * 9)) + x13_4)) x15_5 0 l0_0)) = some r := by first | (rw [hji41] at H; exact H) | (simp only [hji41] at H ⊢; exact H)
                       have hji41_ : (x11_2 / 2 ^ min (ji39).toNat 64) = ji41 := hji41
                       have hji41z : (ji39) ≤ 64 → (x11_2 / 2 ^ (ji39).toNat) = ji41 := shr_small hji41
                       by_cases c42 : (Go.bits .and .i64 (ji41) 1) = 1
                       ·rw [if_pos c42] at H
                        have c42b0 : ((Go.bits .and .i64 (ji41) 1) == 1) = true := beq_iff_eq.mpr c42
                        have c42b1 : ((Go.bits .and .i64 (ji41) 1) != 1) = false := bne_eq_false_iff_eq.mpr c42
                        clear c42
                        have H' := Aside0.mk H
                        clear H
                        go_wp2
                        (try simp only [← hl9_5])
                        go_roundg k5
                        case measure => have := HK1.out; have := HK2.out; have := HK3.out; have := HK4.out; have := HK5.out; omega
                        case rel => exact ⟨(x9_5), (wrap64 (x15_5 + 1)), (by first | rfl | (simp; done) | (simp [*]; done)), H', ⟨by have := HK1.out; have := HK2.out; have := HK3.out; have := HK4.out; have := HK5.out; omega⟩, ⟨by (try simp only [hl9_2]); (try simp only [hl9_3]); (try simp only [hl9_4]); (try simp only [hl9_5]); (with_reducible repeat (first | apply Kd.R_alloc | apply Kd.R_drewN | apply Kd.R_drew)); exact HO_9.out⟩, ⟨by (try simp only [hl9_2]); (try simp only [hl9_3]); (try simp only [hl9_4]); (try simp only [hl9_5]); (with_reducible repeat first | refine b_N ?_ _ | refine b_D ?_ | refine b_A ?_ _); exact BK0.out⟩, ⟨by repeat (first | (with_reducible first | exact HB.out | apply below_alloc | apply pw_below_drewN | apply below_drew1) | exact HB.out)⟩⟩
                       ·rw [if_neg c42] at H
                        have c42b0 : ((Go.bits .and .i64 (ji41) 1) == 1) = false := beq_eq_false_iff_ne.mpr c42
                        have c42b1 : ((Go.bits .and .i64 (ji41) 1) != 1) = true := bne_iff_ne.mpr c42
                        have H' := Aside0.mk H
                        clear H
                        go_wp2
                        go_loopg [16] k5 (fun kq v16 w' => ∃ (x9_6 : List Int) (x16_6 : Int), v16 = .int .i64 x16_6 ∧ Aside0 (spec_l10Left.l5 kq a1 a2 (l0_0.length : Int) (wrap64 ((ji6) - 1)) x9_6 x11_2 x12_3 x13_4 (wrap64 ((wrap64 ((wrap64 ((wrap64 (x11_2 * 9)) + x12_3)) * 9)) + x13_4)) x15_5 x16_6 l0_0 = some r) ∧ Aside0 (kq ≤ k5) ∧ Aside0 (Kd.R (Kd.int .i64) 2 w' w.heap.size (fun _ => True) (.slice Ao19 x9_5.length co19) x9_6) ∧ Aside0 (w'.heap[g0]? = some (.cells #[(.slice A0_0 l0_0.length c0_0)] 44 (0, 0))) ∧ Aside0 (Below w.heap.size w w'))
                        case atStart => exact ⟨(x9_5), (0), (by first | rfl | (simp; done) | (simp [*]; done)), H', ⟨Nat.le_refl _⟩, ⟨by (try simp only [hl9_2]); (try simp only [hl9_3]); (try simp only [hl9_4]); (try simp only [hl9_5]); (with_reducible repeat (first | apply Kd.R_alloc | apply Kd.R_drewN | apply Kd.R_drew)); exact HO_9.out⟩, ⟨by (try simp only [hl9_2]); (try simp only [hl9_3]); (try simp only [hl9_4]); (try simp only [hl9_5]); (with_reducible repeat first | refine b_N ?_ _ | refine b_D ?_ | refine b_A ?_ _); exact BK0.out⟩, ⟨by repeat (first | (with_reducible first | exact HB.out | apply below_alloc | apply pw_below_drewN | apply below_drew1) | exact HB.out)⟩⟩
                        case round =>
                         clear H'
                         try clear c1
                         try clear p1
                         try clear q1
                         try clear hx1
                         try clear c2
                         try clear p2
                         try clear c3
                         try clear p3
                         try clear q3
                         try clear hx3
                         try clear hf3
                         try clear c4
                         try clear c5
                         try clear c5b0
                         try clear c5b1
                         try clear p6
                         try clear c8
                         try clear c8b0
                         try clear c8b1
                         try clear c9
                         try clear c9b0
                         try clear c9b1
                         try clear c13
                         try clear c13b0
                         try clear c14
                         try clear c14b0
                         try clear p15
                         try clear q15
                         try clear hx15
                         try clear hf15
                         try clear c20
                         try clear c20b0
                         try clear c21
                         try clear c21b0
                         try clear c23
                         try clear c23b0
                         try clear c23b1
                         try clear c25
                         try clear c25b0
                         try clear c25b1
                         try clear c26
                         try clear c26b0
                         try clear c27
                         try clear c27b0
                         try clear c27b1
                         try clear c29
                         try clear c29b0
                         try clear c29b1
                         try clear c30
                         try clear c30b0
                         try clear c31
                         try clear c33
                         try clear c33b0
                         try clear c34
                         try clear c34b0
                         try clear p35
                         try clear q35
                         try clear hx35
                         try clear hf35
                         try clear c38
                         try clear c38b0
                         try clear c40
                         try clear c40b0
                         try clear c40b1
                         try clear c42
                         try clear c42b0
                         try clear c42b1
                         try clear hcz10_0
                         try clear hfz10_0
                         try clear hx15_0
                         try clear hx35_0
                         try clear p1
                         try clear p15
                         try clear p2
                         try clear p3
                         try clear p35
                         try clear p6
                         try clear q1
                         try clear q15
                         try clear q3
                         try clear q35
                         obtain ⟨x9_6, x16_6, rfl, HA, HK6, HO_9, BK0, HB⟩ := hrel
                         have hl9_6 := (Kd.R_reads' HO_9.out).1
                         rw [hl9_6] at HO_9
                         (try simp only [hl9_6])
                         (try simp only [hl9_6] at BK0)
                         cases gk with
                         | zero => exact absurd HA.out (by simp [spec_l10Left.l5])
                         | succ k6 =>
                          have H := HA.out
                          clear HA
                          simp only [spec_l10Left.l5] at H
                          replace H := Option.bind_eq_some_iff.mp H
                          obtain ⟨t860, A430, H⟩ := H
                          replace H : (if x16_6 ≤ t860 then (if 0 ≤ (IntKind.u64.wrap (x15_5)) then (if 0 ≤ (wrap64 ((wrap64 ((wrap64 ((wrap64 ((wrap64 ((Go.bits .or .i64 x11_2 (shl .i64 1 (IntKind.u64.wrap (x15_5)))) * 9)) + x15_5)) * 9)) + x13_4)) - x16_6)) then (if (wrap64 ((wrap64 ((wrap64 ((wrap64 ((wrap64 ((Go.bits .or .i64 x11_2 (shl .i64 1 (IntKind.u64.wrap (x15_5)))) * 9)) + x15_5)) * 9)) + x13_4)) - x16_6)) < (x9_6.length : Int) then (if (rd x9_6 (wrap64 ((wrap64 ((wrap64 ((wrap64 ((wrap64 ((Go.bits .or .i64 x11_2 (shl .i64 1 (IntKind.u64.wrap (x15_5)))) * 9)) + x15_5)) * 9)) + x13_4)) - x16_6))) < 0 then (spec_l10Left.l5 k6 a1 a2 (l0_0.length : Int) (wrap64 ((ji6) - 1)) x9_6 x11_2 x12_3 x13_4 (wrap64 ((wrap64 ((wrap64 ((wrap64 (x11_2 * 9)) + x12_3)) * 9)) + x13_4)) x15_5 (wrap64 (x16_6 + 1)) l0_0) else (if x16_6 = 0 then (if 0 ≤ x12_3 then (if x12_3 < (l0_0.length : Int) then (if 0 ≤ x15_5 then (if x15_5 < ((rd_Ls2 l0_0 x12_3).length : Int) then (spec_l10Left.j7 k6 a1 a2 (l0_0.length : Int) (wrap64 ((ji6) - 1)) x9_6 x11_2 x12_3 x13_4 (wrap64 ((wrap64 ((wrap64 ((wrap64 (x11_2 * 9)) + x12_3)) * 9)) + x13_4)) x15_5 x16_6 (wrap64 ((rd x9_6 (wrap64 ((wrap64 ((wrap64 ((wrap64 ((wrap64 ((Go.bits .or .i64 x11_2 (shl .i64 1 (IntKind.u64.wrap (x15_5)))) * 9)) + x15_5)) * 9)) + x13_4)) - x16_6))) + (rd (rd_Ls2 l0_0 x12_3) x15_5))) l0_0) else (none)) else (none)) else (none)) else (none)) else (spec_l10Left.j7 k6 a1 a2 (l0_0.length : Int) (wrap64 ((ji6) - 1)) x9_6 x11_2 x12_3 x13_4 (wrap64 ((wrap64 ((wrap64 ((wrap64 (x11_2 * 9)) + x12_3)) * 9)) + x13_4)) x15_5 x16_6 (rd x9_6 (wrap64 ((wrap64 ((wrap64 ((wrap64 ((wrap64 ((Go.bits .or .i64 x11_2 (shl .i64 1 (IntKind.u64.wrap (x15_5)))) * 9)) + x15_5)) * 9)) + x13_4)) - x16_6))) l0_0))) else (none)) else (none)) else (none)) else (spec_l10Left.l4 k6 a1 a2 (l0_0.length : Int) (wrap64 ((ji6) - 1)) x9_6 x11_2 x12_3 x13_4 (wrap64 ((wrap64 ((wrap64 ((wrap64 (x11_2 * 9)) + x12_3)) * 9)) + x13_4)) (wrap64 (x15_5 + 1)) l0_0)) = some r := H
                          have A43 := Aside0.mk A430
                          clear A430
                          by_cases c44 : x16_6 ≤ t860
                          ·rw [if_pos c44] at H
                           have c44b0 : decide (x16_6 ≤ t860) = true := decide_eq_true c44
                           clear c44
                           obtain ⟨ji45, hji45⟩ : ∃ j_ : Int, (IntKind.u64.wrap (x15_5)) = j_ := ⟨_, rfl⟩
                           obtain rfl : ji45 = ji39 := hji45.symm.trans hji39
                           replace H : (if 0 ≤ (ji45) then (if 0 ≤ (wrap64 ((wrap64 ((wrap64 ((wrap64 ((wrap64 ((Go.bits .or .i64 x11_2 (shl .i64 1 (ji45))) * 9)) + x15_5)) * 9)) + x13_4)) - x16_6)) then (if (wrap64 ((wrap64 ((wrap64 ((wrap64 ((wrap64 ((Go.bits .or .i64 x11_2 (shl .i64 1 (ji45))) * 9)) + x15_5)) * 9)) + x13_4)) - x16_6)) < (x9_6.length : Int) then (if (rd x9_6 (wrap64 ((wrap64 ((wrap64 ((wrap64 ((wrap64 ((Go.bits .or .i64 x11_2 (shl .i64 1 (ji45))) * 9)) + x15_5)) * 9)) + x13_4)) - x16_6))) < 0 then (spec_l10Left.l5 k6 a1 a2 (l0_0.length : Int) (wrap64 ((ji6) - 1)) x9_6 x11_2 x12_3 x13_4 (wrap64 ((wrap64 ((wrap64 ((wrap64 (x11_2 * 9)) + x12_3)) * 9)) + x13_4)) x15_5 (wrap64 (x16_6 + 1)) l0_0) else (if x16_6 = 0 then (if 0 ≤ x12_3 then (if x12_3 < (l0_0.length : Int) then (if 0 ≤ x15_5 then (if x15_5 < ((rd_Ls2 l0_0 x12_3).length : Int) then (spec_l10Left.j7 k6 a1 a2 (l0_0.length : Int) (wrap64 ((ji6) - 1)) x9_6 x11_2 x12_3 x13_4 (wrap64 ((wrap64 ((wrap64 ((wrap64 (x11_2 * 9)) + x12_3)) * 9)) + x13_4)) x15_5 x16_6 (wrap64 ((rd x9_6 (wrap64 ((wrap64 ((wrap64 ((wrap64 ((wrap64 ((Go.bits .or .i64 x11_2 (shl .i64 1 (ji45))) * 9)) + x15_5)) * 9)) + x13_4)) - x16_6))) + (rd (rd_Ls2 l0_0 x12_3) x15_5))) l0_0) else (none)) else (none)) else (none)) else (none)) else (spec_l10Left.j7 k6 a1 a2 (l0_0.length : Int) (wrap64 ((ji6) - 1)) x9_6 x11_2 x12_3 x13_4 (wrap64 ((wrap64 ((wrap64 ((wrap64 (x11_2 * 9)) + x12_3)) * 9)) + x13_4)) x15_5 x16_6 (rd x9_6 (wrap64 ((wrap64 ((wrap64 ((wrap64 ((wrap64 ((Go.bits .or .i64 x11_2 (shl .i64 1 (ji45))) * 9)) + x15_5)) * 9)) + x13_4)) - x16_6))) l0_0))) else (none)) else (none)) else (none)) = some r := by first | (rw [hji45] at H; exact H) | (simp only [hji45] at H ⊢; exact H)
                           (try rw [hji45] at A43)
                           by_cases c46 : 0 ≤ (ji45)
                           ·rw [if_pos c46] at H
                            have c46b0 := eq_true c46
                            have c46b1 : decide (0 ≤ (ji45)) = true := decide_eq_true c46
                            clear c46
                            obtain ⟨ji47, hji47⟩ : ∃ j_ : Int, (shl .i64 1 (ji45)) = j_ := ⟨_, rfl⟩
                            replace H : (if 0 ≤ (wrap64 ((wrap64 ((wrap64 ((wrap64 ((wrap64 ((Go.bits .or .i64 x11_2 (ji47)) * 9)) + x15_5)) * 9)) + x13_4)) - x16_6)) then (if (wrap64 ((wrap64 ((wrap64 ((wrap64 ((wrap64 ((Go.bits .or .i64 x11_2 (ji47)) * 9)) + x15_5)) * 9)) + x13_4)) - x16_6)) < (x9_6.length : Int) then (if (rd x9_6 (wrap64 ((wrap64 ((wrap64 ((wrap64 ((wrap64 ((Go.bits .or .i64 x11_2 (ji47)) * 9)) + x15_5)) * 9)) + x13_4)) - x16_6))) < 0 then (spec_l10Left.l5 k6 a1 a2 (l0_0.length : Int) (wrap64 ((ji6) - 1)) x9_6 x11_2 x12_3 x13_4 (wrap64 ((wrap64 ((wrap64 ((wrap64 (x11_2 * 9)) + x12_3)) * 9)) + x13_4)) x15_5 (wrap64 (x16_6 + 1)) l0_0) else (if x16_6 = 0 then (if 0 ≤ x12_3 then (if x12_3 < (l0_0.length : Int) then (if 0 ≤ x15_5 then (if x15_5 < ((rd_Ls2 l0_0 x12_3).length : Int) then (spec_l10Left.j7 k6 a1 a2 (l0_0.length : Int) (wrap64 ((ji6) - 1)) x9_6 x11_2 x12_3 x13_4 (wrap64 ((wrap64 ((wrap64 ((wrap64 (x11_2 * 9)) + x12_3)) * 9)) + x13_4)) x15_5 x16_6 (wrap64 ((rd x9_6 (wrap64 ((wrap64 ((wrap64 ((wrap64 ((wrap64 ((Go.bits .or .i64 x11_2 (ji47)) * 9)) + x15_5)) * 9)) + x13_4)) - x16_6))) + (rd (rd_Ls2 l0_0 x12_3) x15_5))) l0_0) else (none)) else (none)) else (none)) else (none)) else (spec_l10Left.j7 k6 a1 a2 (l0_0.length : Int) (wrap64 ((ji6) - 1)) x9_6 x11_2 x12_3 x13_4 (wrap64 ((wrap64 ((wrap64 ((wrap64 (x11_2 * 9)) + x12_3)) * 9)) + x13_4)) x15_5 x16_6 (rd x9_6 (wrap64 ((wrap64 ((wrap64 ((wrap64 ((wrap64 ((Go.bits .or .i64 x11_2 (ji47)) * 9)) + x15_5)) * 9)) + x13_4)) - x16_6))) l0_0))) else (none)) else (none)) = some r := by first | (rw [hji47] at H; exact H) | (simp only [hji47] at H ⊢; exact H)
                            (try rw [hji47] at A43)
                            have hji47_ : (IntKind.i64.wrap (1 * 2 ^ min (ji45).toNat 64)) = ji47 := hji47
                            have hji47z : (ji45) ≤ 64 → (IntKind.i64.wrap (1 * 2 ^ (ji45).toNat)) = ji47 := shl_small hji47
                            have hji47u : (IntKind.i64.wrap (2 ^ min (ji45).toNat 64)) = ji47 := by have h_ := hji47_; rw [Int.one_mul] at h_; exact h_
                            have hji47v : (ji45) ≤ 64 → (IntKind.i64.wrap (2 ^ (ji45).toNat)) = ji47 := fun hle_ => by have h_ := hji47z hle_; rw [Int.one_mul] at h_; exact h_
                            have hji47y : (wrap64 (1 * 2 ^ min (ji45).toNat 64)) = ji47 := (i64_w _).symm.trans hji47_
                            have hji47x : (ji45) ≤ 64 → (wrap64 (1 * 2 ^ (ji45).toNat)) = ji47 := fun h_ => (i64_w _).symm.trans (hji47z h_)
                            obtain ⟨ji48, hji48⟩ : ∃ j_ : Int, (wrap64 ((wrap64 ((wrap64 ((wrap64 ((wrap64 ((Go.bits .or .i64 x11_2 (ji47)) * 9)) + x15_5)) * 9)) + x13_4)) - x16_6)) = j_ := ⟨_, rfl⟩
                            replace H : (if 0 ≤ (ji48) then (if (ji48) < (x9_6.length : Int) then (if (rd x9_6 (ji48)) < 0 then (spec_l10Left.l5 k6 a1 a2 (l0_0.length : Int) (wrap64 ((ji6) - 1)) x9_6 x11_2 x12_3 x13_4 (wrap64 ((wrap64 ((wrap64 ((wrap64 (x11_2 * 9)) + x12_3)) * 9)) + x13_4)) x15_5 (wrap64 (x16_6 + 1)) l0_0) else (if x16_6 = 0 then (if 0 ≤ x12_3 then (if x12_3 < (l0_0.length : Int) then (if 0 ≤ x15_5 then (if x15_5 < ((rd_Ls2 l0_0 x12_3).length : Int) then (spec_l10Left.j7 k6 a1 a2 (l0_0.length : Int) (wrap64 ((ji6) - 1)) x9_6 x11_2 x12_3 x13_4 (wrap64 ((wrap64 ((wrap64 ((wrap64 (x11_2 * 9)) + x12_3)) * 9)) + x13_4)) x15_5 x16_6 (wrap64 ((rd x9_6 (ji48)) + (rd (rd_Ls2 l0_0 x12_3) x15_5))) l0_0) else (none)) else (none)) else (none)) else (none)) else (spec_l10Left.j7 k6 a1 a2 (l0_0.length : Int) (wrap64 ((ji6) - 1)) x9_6 x11_2 x12_3 x13_4 (wrap64 ((wrap64 ((wrap64 ((wrap64 (x11_2 * 9)) + x12_3)) * 9)) + x13_4)) x15_5 x16_6 (rd x9_6 (ji48)) l0_0))) else (none)) else (none)) = some r := by first | (rw [hji48] at H; exact H) | (simp only [hji48] at H ⊢; exact H)
                            (try rw [hji48] at A43)
                            have hji48w : (IntKind.i64.wrap ((wrap64 ((wrap64 ((wrap64 ((wrap64 ((Go.bits .or .i64 x11_2 (ji47)) * 9)) + x15_5)) * 9)) + x13_4)) - x16_6)) = ji48 := (i64_w _).trans hji48
                            by_cases c49 : 0 ≤ (ji48)
                            ·rw [if_pos c49] at H
                             have c49b0 : decide (0 ≤ (ji48)) = true := decide_eq_true c49
                             clear c49
                             by_cases c50 : (ji48) < (x9_6.length : Int)
                             ·rw [if_pos c50] at H
                              have c50b0 : decide ((ji48) < (x9_6.length : Int)) = true := decide_eq_true c50
                              clear c50
                              by_cases c51 : (rd x9_6 (ji48)) < 0
                              ·rw [if_pos c51] at H
                               have c51b0 : decide ((rd x9_6 (ji48)) < 0) = true := decide_eq_true c51
                               clear c51
                               have H' := Aside0.mk H
                               clear H
                               go_wp2_with (first | ((with_reducible refine gate_callee (f := 133) rfl ?_); refine goesL_ (some 98) rfl rfl Try.func133 (by kernel_rfl) rfl #[.int .i64 1, .int .i64 x13_4] rfl (by (try simp only [List.map_toArray, List.map_cons, List.map_nil]); first | done | rfl | (simp only [List.length_drop, List.length_take]; rfl)) ?_; (with_reducible refine (spec_l00Min.calls 1 x13_4 t860 _ A43.out).mono ?_); rintro e w' ⟨rfl, ⟨nd, rfl⟩⟩; refine ⟨_, rfl, ?_⟩; have p861 : 0 ≤ ((ji48) : Int) := of_decide_eq_true (by first | (with_reducible assumption) | assumption); have q861 : (ji48) < (x9_6.length : Int) := of_decide_eq_true (by first | (with_reducible assumption) | assumption); obtain ⟨ad861, e861, hx861_0⟩ := Kd.at_int (Kd.R_reads' HO_9.out).2.2 (ji48) p861 q861; cases e861; replace p861 := eq_true p861; replace q861 := eq_true q861))
                               (try simp only [← hl9_6])
                               go_roundg k6
                               case measure => have := HK1.out; have := HK2.out; have := HK3.out; have := HK4.out; have := HK5.out; have := HK6.out; omega
                               case rel => exact ⟨(x9_6), (wrap64 (x16_6 + 1)), (by first | rfl | (simp; done) | (simp [*]; done)), H', ⟨by have := HK1.out; have := HK2.out; have := HK3.out; have := HK4.out; have := HK5.out; have := HK6.out; omega⟩, ⟨by (try simp only [hl9_2]); (try simp only [hl9_3]); (try simp only [hl9_4]); (try simp only [hl9_5]); (try simp only [hl9_6]); (with_reducible repeat (first | apply Kd.R_alloc | apply Kd.R_drewN | apply Kd.R_drew)); exact HO_9.out⟩, ⟨by (try simp only [hl9_2]); (try simp only [hl9_3]); (try simp only [hl9_4]); (try simp only [hl9_5]); (try simp only [hl9_6]); (with_reducible repeat first | refine b_N ?_ _ | refine b_D ?_ | refine b_A ?_ _); exact BK0.out⟩, ⟨by repeat (first | (with_reducible first | exact HB.out | apply below_alloc | apply pw_below_drewN | apply below_drew1) | exact HB.out)⟩⟩
                              ·rw [if_neg c51] at H
                               have c51b0 : decide ((rd x9_6 (ji48)) < 0) = false := decide_eq_false c51
                               clear c51
                               have HC52 := Aside0.mk H
                               clear H
                               go_upto_if 121 with (first | ((with_reducible refine gate_callee (f := 133) rfl ?_); refine goesL_ (some 98) rfl rfl Try.func133 (by kernel_rfl) rfl #[.int .i64 1, .int .i64 x13_4] rfl (by (try simp only [List.map_toArray, List.map_cons, List.map_nil]); first | done | rfl | (simp only [List.length_drop, List.length_take]; rfl)) ?_; (with_reducible refine (spec_l00Min.calls 1 x13_4 t860 _ A43.out).mono ?_); rintro e w' ⟨rfl, ⟨nd, rfl⟩⟩; refine ⟨_, rfl, ?_⟩; have p861 : 0 ≤ ((ji48) : Int) := of_decide_eq_true (by first | (with_reducible assumption) | assumption); have q861 : (ji48) < (x9_6.length : Int) := of_decide_eq_true (by first | (with_reducible assumption) | assumption); obtain ⟨ad861, e861, hx861_0⟩ := Kd.at_int (Kd.R_reads' HO_9.out).2.2 (ji48) p861 q861; cases e861; replace p861 := eq_true p861; replace q861 := eq_true q861))
                               (try simp only [Act.put, List.setIfInBounds_toArray, List.set_cons_zero, List.set_cons_succ])
                               go_cut [17] (fun v17 wc => ∃ (kq : Nat) (x17_51 : Int), v17 = .int .i64 x17_51 ∧ Aside0 (spec_l10Left.j7 kq a1 a2 (l0_0.length : Int) (wrap64 ((ji6) - 1)) x9_6 x11_2 x12_3 x13_4 (wrap64 ((wrap64 ((wrap64 ((wrap64 (x11_2 * 9)) + x12_3)) * 9)) + x13_4)) x15_5 x16_6 x17_51 l0_0 = some r) ∧ Aside0 (kq ≤ k6) ∧ Aside0 (Kd.R (Kd.int .i64) 2 wc w.heap.size (fun _ => True) (.slice (some ad861) x9_6.length co19) x9_6) ∧ Aside0 (wc.heap[g0]? = some (.cells #[(.slice A0_0 l0_0.length c0_0)] 44 (0, 0))) ∧ Aside0 (Below w.heap.size w wc))
                               case first =>
                                have H := HC52.out
                                clear HC52
                                by_cases c53 : x16_6 = 0
                                ·rw [if_pos c53] at H
                                 have c53b0 : (x16_6 == 0) = true := beq_iff_eq.mpr c53
                                 have c53b1 : (x16_6 != 0) = false := bne_eq_false_iff_eq.mpr c53
                                 clear c53
                                 (first | rw [c53b0] | (simp only [i64_w, i32_w]; rw [c53b0]) | skip)
                                 by_cases c54 : 0 ≤ x12_3
                                 ·rw [if_pos c54] at H
                                  have c54b0 : decide (0 ≤ x12_3) = true := decide_eq_true c54
                                  clear c54
                                  by_cases c55 : x12_3 < (l0_0.length : Int)
                                  ·rw [if_pos c55] at H
                                   have c55b0 : decide (x12_3 < (l0_0.length : Int)) = true := decide_eq_true c55
                                   clear c55
                                   by_cases c56 : 0 ≤ x15_5
                                   ·rw [if_pos c56] at H
                                    have c56b0 : decide (0 ≤ x15_5) = true := decide_eq_true c56
                                    clear c56
                                    by_cases c57 : x15_5 < ((rd_Ls2 l0_0 x12_3).length : Int)
                                    ·rw [if_pos c57] at H
                                     have c57b0 : decide (x15_5 < ((rd_Ls2 l0_0 x12_3).length : Int)) = true := decide_eq_true c57
                                     clear c57
                                     have H' := Aside0.mk H
                                     clear H
                                     have hcz58_0 : wr.cell? ⟨g0, 0, none⟩ = some (.slice A0_0 l0_0.length c0_0) := (blk_cell BK0.out 0).trans rfl
                                     have hfz58_0 := blk_frozen BK0.out 0
                                     have p862 : 0 ≤ (x12_3 : Int) := of_decide_eq_true (by first | (with_reducible assumption) | assumption)
                                     have q862 : x12_3 < (l0_0.length : Int) := of_decide_eq_true (by first | (with_reducible assumption) | assumption)
                                     obtain ⟨ad862, A862_0, c862_0, e862, hx862_0, hl862_0, hi862_0⟩ := at_Ls2 HR0_0.out x12_3 p862 q862
                                     cases e862
                                     replace hx862_0 := (HB.out.cell (World.block_lt_of_cell? w _ hx862_0)).trans hx862_0
                                     have HR862_0 := Aside0.mk hi862_0
                                     have HC862_0 := Aside0.mk hl862_0
                                     clear hi862_0 hl862_0
                                     replace p862 := eq_true p862
                                     replace q862 := eq_true q862
                                     have p863 : 0 ≤ (x15_5 : Int) := of_decide_eq_true (by first | (with_reducible assumption) | assumption)
                                     have q863 : x15_5 < ((rd_Ls2 l0_0 x12_3).length : Int) := of_decide_eq_true (by first | (with_reducible assumption) | assumption)
                                     obtain ⟨ad863, e863, hx863_0⟩ := Kd.at_int HR862_0.out x15_5 p863 q863
                                     cases e863
                                     replace hx863_0 := (HB.out.cell (World.block_lt_of_cell? w _ hx863_0)).trans hx863_0
                                     replace p863 := eq_true p863
                                     replace q863 := eq_true q863
                                     go_wp2
                                     go_meet
                                     case rel => exact ⟨_, (wrap64 ((rd x9_6 (ji48)) + (rd (rd_Ls2 l0_0 x12_3) x15_5))), (by first | rfl | (simp; done) | (simp only [← hji48] <;> (first | rfl | simp)) | (simp [*]; done)), H', ⟨by have := HK1.out; have := HK2.out; have := HK3.out; have := HK4.out; have := HK5.out; have := HK6.out; first | omega | exact Nat.le_refl _⟩, ⟨by (try simp only [hl9_2]); (try simp only [hl9_3]); (try simp only [hl9_4]); (try simp only [hl9_5]); (try simp only [hl9_6]); (with_reducible repeat (first | apply Kd.R_alloc | apply Kd.R_drewN | apply Kd.R_drew)); exact HO_9.out⟩, ⟨by (try simp only [hl9_2]); (try simp only [hl9_3]); (try simp only [hl9_4]); (try simp only [hl9_5]); (try simp only [hl9_6]); (with_reducible repeat first | refine b_N ?_ _ | refine b_D ?_ | refine b_A ?_ _); exact BK0.out⟩, ⟨by repeat (first | (with_reducible first | exact HB.out | apply below_alloc | apply pw_below_drewN | apply below_drew1) | exact HB.out)⟩⟩
                                    ·rw [if_neg c57] at H
                                     exact absurd H (by simp)
                                   ·rw [if_neg c56] at H
                                    exact absurd H (by simp)
                                  ·rw [if_neg c55] at H
                                   exact absurd H (by simp)
                                 ·rw [if_neg c54] at H
                                  exact absurd H (by simp)
                                ·rw [if_neg c53] at H
                                 have c53b0 : (x16_6 == 0) = false := beq_eq_false_iff_ne.mpr c53
                                 have c53b1 : (x16_6 != 0) = true := bne_iff_ne.mpr c53
                                 (first | rw [c53b0] | (simp only [i64_w, i32_w]; rw [c53b0]) | skip)
                                 have H' := Aside0.mk H
                                 clear H
                                 go_wp2
                                 go_meet
                                 case rel => exact ⟨_, (rd x9_6 (ji48)), (by first | rfl | (simp; done) | (simp only [← hji48] <;> (first | rfl | simp)) | (simp [*]; done)), H', ⟨by have := HK1.out; have := HK2.out; have := HK3.out; have := HK4.out; have := HK5.out; have := HK6.out; first | omega | exact Nat.le_refl _⟩, ⟨by (try simp only [hl9_2]); (try simp only [hl9_3]); (try simp only [hl9_4]); (try simp only [hl9_5]); (try simp only [hl9_6]); (with_reducible repeat (first | apply Kd.R_alloc | apply Kd.R_drewN | apply Kd.R_drew)); exact HO_9.out⟩, ⟨by (try simp only [hl9_2]); (try simp only [hl9_3]); (try simp only [hl9_4]); (try simp only [hl9_5]); (try simp only [hl9_6]); (with_reducible repeat first | refine b_N ?_ _ | refine b_D ?_ | refine b_A ?_ _); exact BK0.out⟩, ⟨by repeat (first | (with_reducible first | exact HB.out | apply below_alloc | apply pw_below_drewN | apply below_drew1) | exact HB.out)⟩⟩
                               case rest =>
                                clear HC52
                                try clear c1
                                try clear p1
                                try clear q1
                                try clear hx1
                                try clear c2
                                try clear p2
                                try clear c3
                                try clear p3
                                try clear q3
                                try clear hx3
                                try clear hf3
                                try clear c4
                                try clear c5
                                try clear c5b0
                                try clear c5b1
                                try clear p6
                                try clear c8
                                try clear c8b0
                                try clear c8b1
                                try clear p8
                                try clear q8
                                try clear hx8
                                try clear c9
                                try clear c9b0
                                try clear c9b1
                                try clear c13
                                try clear c13b0
                                try clear c14
                                try clear c14b0
                                try clear p15
                                try clear q15
                                try clear hx15
                                try clear hf15
                                try clear c20
                                try clear c20b0
                                try clear c21
                                try clear c21b0
                                try clear c23
                                try clear c23b0
                                try clear c23b1
                                try clear c25
                                try clear c25b0
                                try clear c25b1
                                try clear c26
                                try clear c26b0
                                try clear c27
                                try clear c27b0
                                try clear c27b1
                                try clear c29
                                try clear c29b0
                                try clear c29b1
                                try clear c30
                                try clear c30b0
                                try clear c31
                                try clear c33
                                try clear c33b0
                                try clear c34
                                try clear c34b0
                                try clear p35
                                try clear q35
                                try clear hx35
                                try clear hf35
                                try clear c38
                                try clear c38b0
                                try clear c40
                                try clear c40b0
                                try clear c40b1
                                try clear c42
                                try clear c42b0
                                try clear c42b1
                                try clear c44
                                try clear c44b0
                                try clear c46
                                try clear c46b0
                                try clear c46b1
                                try clear c49
                                try clear c49b0
                                try clear c50
                                try clear c50b0
                                try clear c51
                                try clear c51b0
                                try clear c53
                                try clear c53b0
                                try clear c53b1
                                try clear c54
                                try clear c54b0
                                try clear c55
                                try clear c55b0
                                try clear c56
                                try clear c56b0
                                try clear c57
                                try clear c57b0
                                try clear hcz10_0
                                try clear hcz58_0
                                try clear hfz10_0
                                try clear hfz58_0
                                try clear hx15_0
                                try clear hx35_0
                                try clear hx861_0
                                try clear hx862_0
                                try clear hx863_0
                                try clear p1
                                try clear p15
                                try clear p2
                                try clear p3
                                try clear p35
                                try clear p6
                                try clear p861
                                try clear p862
                                try clear p863
                                try clear q1
                                try clear q15
                                try clear q3
                                try clear q35
                                try clear q861
                                try clear q862
                                try clear q863
                                obtain ⟨kq, x17_51, rfl, HA, HJ51, HO_9, BK0, HB⟩ := hcut
                                cases kq with
                                | zero => exact absurd HA.out (by simp [spec_l10Left.j7])
                                | succ kj51 =>
                                 have H := HA.out
                                 clear HA
                                 simp only [spec_l10Left.j7] at H
                                 obtain ⟨ji59, hji59⟩ : ∃ j_ : Int, (wrap64 ((wrap64 ((wrap64 ((wrap64 (x11_2 * 9)) + x12_3)) * 9)) + x13_4)) = j_ := ⟨_, rfl⟩
                                 replace H : (if 0 ≤ (ji59) then (if (ji59) < (x9_6.length : Int) then (if (rd x9_6 (ji59)) < 0 then (spec_l10Left.l5 kj51 a1 a2 (l0_0.length : Int) (wrap64 ((ji6) - 1)) (x9_6.set ((ji59) : Int).toNat x17_51) x11_2 x12_3 x13_4 (ji59) x15_5 (wrap64 (x16_6 + 1)) l0_0) else (if x17_51 < (rd x9_6 (ji59)) then (spec_l10Left.l5 kj51 a1 a2 (l0_0.length : Int) (wrap64 ((ji6) - 1)) (x9_6.set ((ji59) : Int).toNat x17_51) x11_2 x12_3 x13_4 (ji59) x15_5 (wrap64 (x16_6 + 1)) l0_0) else (spec_l10Left.l5 kj51 a1 a2 (l0_0.length : Int) (wrap64 ((ji6) - 1)) x9_6 x11_2 x12_3 x13_4 (ji59) x15_5 (wrap64 (x16_6 + 1)) l0_0))) else (none)) else (none)) = some r := by first | (rw [hji59] at H; exact H) | (simp only [hji59] at H ⊢; exact H)
                                 have hji59w : (IntKind.i64.wrap ((wrap64 ((wrap64 ((wrap64 (x11_2 * 9)) + x12_3)) * 9)) + x13_4)) = ji59 := (i64_w _).trans hji59
                                 by_cases c60 : 0 ≤ (ji59)
                                 ·rw [if_pos c60] at H
                                  have c60b0 : decide (0 ≤ (ji59)) = true := decide_eq_true c60
                                  clear c60
                                  by_cases c61 : (ji59) < (x9_6.length : Int)
                                  ·rw [if_pos c61] at H
                                   have c61b0 : decide ((ji59) < (x9_6.length : Int)) = true := decide_eq_true c61
                                   clear c61
                                   by_cases c62 : (rd x9_6 (ji59)) < 0
                                   ·rw [if_pos c62] at H
                                    have c62b0 : decide ((rd x9_6 (ji59)) < 0) = true := decide_eq_true c62
                                    clear c62
                                    obtain ⟨y866, hy866⟩ : ∃ y_ : List Int, y_ = (x9_6.set ((ji59) : Int).toNat x17_51) := ⟨_, rfl⟩
                                    replace H : (spec_l10Left.l5 kj51 a1 a2 (l0_0.length : Int) (wrap64 ((ji6) - 1)) y866 x11_2 x12_3 x13_4 (ji59) x15_5 (wrap64 (x16_6 + 1)) l0_0) = some r := by first | (rw [hy866]; with_reducible exact H) | (have H2_ := (Option.bind_some _ _).symm.trans H; rw [hy866]; with_reducible exact H2_) | (have H2_ := (Option.bind_some _ _).symm.trans H; with_reducible exact H2_) | with_reducible exact H | (rw [hy866]; exact H) | exact H
                                    have Ny866 := Aside0.mk hy866
                                    clear hy866
                                    have H' := Aside0.mk H
                                    clear H
                                    have p864 : 0 ≤ ((ji59) : Int) := of_decide_eq_true (by first | (with_reducible assumption) | assumption)
                                    have q864 : (ji59) < (x9_6.length : Int) := of_decide_eq_true (by first | (with_reducible assumption) | assumption)
                                    obtain ⟨ad864, e864, hx864_0⟩ := Kd.at_int (Kd.R_reads' HO_9.out).2.2 (ji59) p864 q864
                                    obtain rfl : ad861 = ad864 := (by injection e864)
                                    replace p864 := eq_true p864
                                    replace q864 := eq_true q864
                                    have p63 : 0 ≤ ((ji59) : Int) := of_decide_eq_true (by first | (with_reducible assumption) | assumption)
                                    have q63 : ((ji59) : Int) < ((x9_6.length : Int) : Int) := of_decide_eq_true (by first | (with_reducible assumption) | assumption)
                                    obtain ⟨go63, co63, eo63, gb63, gl63, cl63, HG63⟩ := Kd.R_form HO_9.out (by omega)
                                    (first | cases eo63 | (injection eo63 with ea_ en_ ec_; (first | subst ea_ | (injection ea_ with ea_; subst ea_)); subst ec_; clear en_))
                                    have GB63 := Aside0.mk gb63
                                    have GG63 := Aside0.mk HG63
                                    clear gb63 gl63 HG63
                                    (first | simp only [add_plain] at hx861_0 | skip)
                                    (first | simp only [add_plain] at hx864_0 | skip)
                                    obtain ⟨hx63_0, hf63_0⟩ := Kd.R_celln 0 HO_9.out ((ji59) : Int) p63 q63
                                    replace p63 := eq_true p63
                                    replace q63 := eq_true q63
                                    have HP64 := Kd.R_putg HO_9.out ((ji59) : Int) x17_51
                                    go_wp2_with (first | ((with_reducible refine gate_store (t := 2) (p := 150) rfl ?_); refine store_event (t := 2) (p := 150) (v := ?vo_w65) (w1 := (wc.setCell ⟨go63, ((ji59) : Int).toNat, none⟩ (.int .i64 x17_51))) ?hg ?ho ?hn ?hr ?_; (case ho => rfl); (case hg => rfl); (case hn => rfl); (case hr => first | (go_simp; done) | (go_simp; rfl)); intro w65 hw; have hg : wc.grownBy w65 (some go63) := (by rw [hw]; exact HP64.2); have hp_ : Kd.R (Kd.int .i64) 2 w65 w.heap.size (fun _ => True) (.slice (some ⟨go63, 0, none⟩) x9_6.length co19) y866 := (by rw [hw, Ny866.out]; exact HP64.1); clear HP64; have n0_ := Aside0.mk (hp_); have n1_ := Aside0.mk (blk_grown (g := g0) (o := .cells #[.slice A0_0 l0_0.length c0_0] 44 (0, 0)) (by (with_reducible repeat first | refine b_N ?_ _ | refine b_D ?_ | refine b_A ?_ _); exact BK0.out) hg (Kd.R_ne HO_9.out BK0.out (by decide))); have n2_ := Aside0.mk ((by rw [hw]; exact below_set (HB.out) GB63.out : Below w.heap.size w w65)); clear HO_9; clear BK0; clear HB; have HO_9 := n0_; have BK0 := n1_; have HB := n2_; clear n0_ n1_ n2_; clear hg hw hp_))
                                    (try simp only [← hl9_6])
                                    (try subst hji59)
                                    go_roundg kj51
                                    case measure => have := HK1.out; have := HK2.out; have := HK3.out; have := HK4.out; have := HK5.out; have := HK6.out; have := HJ51.out; omega
                                    case rel => exact ⟨(y866), (wrap64 (x16_6 + 1)), (by first | rfl | (simp; done) | (simp [*]; done)), H', ⟨by have := HK1.out; have := HK2.out; have := HK3.out; have := HK4.out; have := HK5.out; have := HK6.out; have := HJ51.out; omega⟩, ⟨by (try simp only [hl9_2]); (try simp only [hl9_3]); (try simp only [hl9_4]); (try simp only [hl9_5]); (try simp only [hl9_6]); (with_reducible repeat (first | apply Kd.R_alloc | apply Kd.R_drewN | apply Kd.R_drew)); exact HO_9.out⟩, ⟨by (try simp only [hl9_2]); (try simp only [hl9_3]); (try simp only [hl9_4]); (try simp only [hl9_5]); (try simp only [hl9_6]); (with_reducible repeat first | refine b_N ?_ _ | refine b_D ?_ | refine b_A ?_ _); exact BK0.out⟩, ⟨by repeat (first | (with_reducible first | exact HB.out | apply below_alloc | apply pw_below_drewN | apply below_drew1) | exact HB.out)⟩⟩
                                   ·rw [if_neg c62] at H
                                    have c62b0 : decide ((rd x9_6 (ji59)) < 0) = false := decide_eq_false c62
                                    clear c62
                                    by_cases c66 : x17_51 < (rd x9_6 (ji59))
                                    ·rw [if_pos c66] at H
                                     have c66b0 : decide (x17_51 < (rd x9_6 (ji59))) = true := decide_eq_true c66
                                     clear c66
                                     obtain ⟨y867, hy867⟩ : ∃ y_ : List Int, y_ = (x9_6.set ((ji59) : Int).toNat x17_51) := ⟨_, rfl⟩
                                     replace H : (spec_l10Left.l5 kj51 a1 a2 (l0_0.length : Int) (wrap64 ((ji6) - 1)) y867 x11_2 x12_3 x13_4 (ji59) x15_5 (wrap64 (x16_6 + 1)) l0_0) = some r := by first | (rw [hy867]; with_reducible exact H) | (have H2_ := (Option.bind_some _ _).symm.trans H; rw [hy867]; with_reducible exact H2_) | (have H2_ := (Option.bind_some _ _).symm.trans H; with_reducible exact H2_) | with_reducible exact H | (rw [hy867]; exact H) | exact H
                                     have Ny867 := Aside0.mk hy867
                                     clear hy867
                                     have H' := Aside0.mk H
                                     clear H
                                     have p864 : 0 ≤ ((ji59) : Int) := of_decide_eq_true (by first | (with_reducible assumption) | assumption)
                                     have q864 : (ji59) < (x9_6.length : Int) := of_decide_eq_true (by first | (with_reducible assumption) | assumption)
                                     obtain ⟨ad864, e864, hx864_0⟩ := Kd.at_int (Kd.R_reads' HO_9.out).2.2 (ji59) p864 q864
                                     obtain rfl : ad861 = ad864 := (by injection e864)
                                     replace p864 := eq_true p864
                                     replace q864 := eq_true q864
                                     have p865 : 0 ≤ ((ji59) : Int) := of_decide_eq_true (by first | (with_reducible assumption) | assumption)
                                     have q865 : (ji59) < (x9_6.length : Int) := of_decide_eq_true (by first | (with_reducible assumption) | assumption)
                                     obtain ⟨ad865, e865, hx865_0⟩ := Kd.at_int (Kd.R_reads' HO_9.out).2.2 (ji59) p865 q865
                                     obtain rfl : ad861 = ad865 := (by injection e865)
                                     replace p865 := eq_true p865
                                     replace q865 := eq_true q865
                                     have p67 : 0 ≤ ((ji59) : Int) := of_decide_eq_true (by first | (with_reducible assumption) | assumption)
                                     have q67 : ((ji59) : Int) < ((x9_6.length : Int) : Int) := of_decide_eq_true (by first | (with_reducible assumption) | assumption)
                                     obtain ⟨go67, co67, eo67, gb67, gl67, cl67, HG67⟩ := Kd.R_form HO_9.out (by omega)
                                     (first | cases eo67 | (injection eo67 with ea_ en_ ec_; (first | subst ea_ | (injection ea_ with ea_; subst ea_)); subst ec_; clear en_))
                                     have GB67 := Aside0.mk gb67
                                     have GG67 := Aside0.mk HG67
                                     clear gb67 gl67 HG67
                                     (first | simp only [add_plain] at hx864_0 | skip)
                                     (first | simp only [add_plain] at hx865_0 | skip)
                                     obtain ⟨hx67_0, hf67_0⟩ := Kd.R_celln 0 HO_9.out ((ji59) : Int) p67 q67
                                     replace p67 := eq_true p67
                                     replace q67 := eq_true q67
                                     have HP68 := Kd.R_putg HO_9.out ((ji59) : Int) x17_51
                                     go_wp2_with (first | ((with_reducible refine gate_store (t := 2) (p := 150) rfl ?_); refine store_event (t := 2) (p := 150) (v := ?vo_w69) (w1 := (wc.setCell ⟨go67, ((ji59) : Int).toNat, none⟩ (.int .i64 x17_51))) ?hg ?ho ?hn ?hr ?_; (case ho => rfl); (case hg => rfl); (case hn => rfl); (case hr => first | (go_simp; done) | (go_simp; rfl)); intro w69 hw; have hg : wc.grownBy w69 (some go67) := (by rw [hw]; exact HP68.2); have hp_ : Kd.R (Kd.int .i64) 2 w69 w.heap.size (fun _ => True) (.slice (some ⟨go67, 0, none⟩) x9_6.length co19) y867 := (by rw [hw, Ny867.out]; exact HP68.1); clear HP68; have n0_ := Aside0.mk (hp_); have n1_ := Aside0.mk (blk_grown (g := g0) (o := .cells #[.slice A0_0 l0_0.length c0_0] 44 (0, 0)) (by (with_reducible repeat first | refine b_N ?_ _ | refine b_D ?_ | refine b_A ?_ _); exact BK0.out) hg (Kd.R_ne HO_9.out BK0.out (by decide))); have n2_ := Aside0.mk ((by rw [hw]; exact below_set (HB.out) GB67.out : Below w.heap.size w w69)); clear HO_9; clear BK0; clear HB; have HO_9 := n0_; have BK0 := n1_; have HB := n2_; clear n0_ n1_ n2_; clear hg hw hp_))
                                     (try simp only [← hl9_6])
                                     (try subst hji59)
                                     go_roundg kj51
                                     case measure => have := HK1.out; have := HK2.out; have := HK3.out; have := HK4.out; have := HK5.out; have := HK6.out; have := HJ51.out; omega
                                     case rel => exact ⟨(y867), (wrap64 (x16_6 + 1)), (by first | rfl | (simp; done) | (simp [*]; done)), H', ⟨by have := HK1.out; have := HK2.out; have := HK3.out; have := HK4.out; have := HK5.out; have := HK6.out; have := HJ51.out; omega⟩, ⟨by (try simp only [hl9_2]); (try simp only [hl9_3]); (try simp only [hl9_4]); (try simp only [hl9_5]); (try simp only [hl9_6]); (with_reducible repeat (first | apply Kd.R_alloc | apply Kd.R_drewN | apply Kd.R_drew)); exact HO_9.out⟩, ⟨by (try simp only [hl9_2]); (try simp only [hl9_3]); (try simp only [hl9_4]); (try simp only [hl9_5]); (try simp only [hl9_6]); (with_reducible repeat first | refine b_N ?_ _ | refine b_D ?_ | refine b_A ?_ _); exact BK0.out⟩, ⟨by repeat (first | (with_reducible first | exact HB.out | apply below_alloc | apply pw_below_drewN | apply below_drew1) | exact HB.out)⟩⟩
                                    ·rw [if_neg c66] at H
                                     have c66b0 : decide (x17_51 < (rd x9_6 (ji59))) = false := decide_eq_false c66
                                     clear c66
                                     have H' := Aside0.mk H
                                     clear H
                                     have p864 : 0 ≤ ((ji59) : Int) := of_decide_eq_true (by first | (with_reducible assumption) | assumption)
                                     have q864 : (ji59) < (x9_6.length : Int) := of_decide_eq_true (by first | (with_reducible assumption) | assumption)
                                     obtain ⟨ad864, e864, hx864_0⟩ := Kd.at_int (Kd.R_reads' HO_9.out).2.2 (ji59) p864 q864
                                     obtain rfl : ad861 = ad864 := (by injection e864)
                                     replace p864 := eq_true p864
                                     replace q864 := eq_true q864
                                     have p865 : 0 ≤ ((ji59) : Int) := of_decide_eq_true (by first | (with_reducible assumption) | assumption)
                                     have q865 : (ji59) < (x9_6.length : Int) := of_decide_eq_true (by first | (with_reducible assumption) | assumption)
                                     obtain ⟨ad865, e865, hx865_0⟩ := Kd.at_int (Kd.R_reads' HO_9.out).2.2 (ji59) p865 q865
                                     obtain rfl : ad861 = ad865 := (by injection e865)
                                     replace p865 := eq_true p865
                                     replace q865 := eq_true q865
                                     go_wp2
                                     (try simp only [← hl9_6])
                                     (try subst hji59)
                                     go_roundg kj51
                                     case measure => have := HK1.out; have := HK2.out; have := HK3.out; have := HK4.out; have := HK5.out; have := HK6.out; have := HJ51.out; omega
                                     case rel => exact ⟨(x9_6), (wrap64 (x16_6 + 1)), (by first | rfl | (simp; done) | (simp [*]; done)), H', ⟨by have := HK1.out; have := HK2.out; have := HK3.out; have := HK4.out; have := HK5.out; have := HK6.out; have := HJ51.out; omega⟩, ⟨by (try simp only [hl9_2]); (try simp only [hl9_3]); (try simp only [hl9_4]); (try simp only [hl9_5]); (try simp only [hl9_6]); (with_reducible repeat (first | apply Kd.R_alloc | apply Kd.R_drewN | apply Kd.R_drew)); exact HO_9.out⟩, ⟨by (try simp only [hl9_2]); (try simp only [hl9_3]); (try simp only [hl9_4]); (try simp only [hl9_5]); (try simp only [hl9_6]); (with_reducible repeat first | refine b_N ?_ _ | refine b_D ?_ | refine b_A ?_ _); exact BK0.out⟩, ⟨by repeat (first | (with_reducible first | exact HB.out | apply below_alloc | apply pw_below_drewN | apply below_drew1) | exact HB.out)⟩⟩
                                  ·rw [if_neg c61] at H
                                   exact absurd H (by simp)
                                 ·rw [if_neg c60] at H
                                  exact absurd H (by simp)
                             ·rw [if_neg c50] at H
                              exact absurd H (by simp)
                            ·rw [if_neg c49] at H
                             exact absurd H (by simp)
                           ·rw [if_neg c46] at H
                            exact absurd H (by simp)
                          ·rw [if_neg c44] at H
                           have c44b0 : decide (x16_6 ≤ t860) = false := decide_eq_false c44
                           clear c44
                           have H' := Aside0.mk H
                           clear H
                           go_wp2_with (first | ((with_reducible refine gate_callee (f := 133) rfl ?_); refine goesL_ (some 98) rfl rfl Try.func133 (by kernel_rfl) rfl #[.int .i64 1, .int .i64 x13_4] rfl (by (try simp only [List.map_toArray, List.map_cons, List.map_nil]); first | done | rfl | (simp only [List.length_drop, List.length_take]; rfl)) ?_; (with_reducible refine (spec_l00Min.calls 1 x13_4 t860 _ A43.out).mono ?_); rintro e w' ⟨rfl, ⟨nd, rfl⟩⟩; refine ⟨_, rfl, ?_⟩))
                           (try simp only [← hl9_5, ← hl9_6])
                           (try subst hji59)
                           go_roundg k6
                           case measure => have := HK1.out; have := HK2.out; have := HK3.out; have := HK4.out; have := HK5.out; have := HK6.out; omega
                           case rel => exact ⟨(x9_6), (wrap64 (x15_5 + 1)), (by first | rfl | (simp; done) | (simp [*]; done)), H', ⟨by have := HK1.out; have := HK2.out; have := HK3.out; have := HK4.out; have := HK5.out; have := HK6.out; omega⟩, ⟨by (try simp only [hl9_2]); (try simp only [hl9_3]); (try simp only [hl9_4]); (try simp only [hl9_5]); (try simp only [hl9_6]); (with_reducible repeat (first | apply Kd.R_alloc | apply Kd.R_drewN | apply Kd.R_drew)); exact HO_9.out⟩, ⟨by (try simp only [hl9_2]); (try simp only [hl9_3]); (try simp only [hl9_4]); (try simp only [hl9_5]); (try simp only [hl9_6]); (with_reducible repeat first | refine b_N ?_ _ | refine b_D ?_ | refine b_A ?_ _); exact BK0.out⟩, ⟨by repeat (first | (with_reducible first | exact HB.out | apply below_alloc | apply pw_below_drewN | apply below_drew1) | exact HB.out)⟩⟩
                      ·rw [if_neg c40] at H
                       exact absurd H (by simp)
                     ·rw [if_neg c38] at H
                      have c38b0 : decide (x15_5 < (l0_0.length : Int)) = false := decide_eq_false c38
                      clear c38
                      have H' := Aside0.mk H
                      clear H
                      go_wp2
                      (try simp only [← hl9_4, ← hl9_5])
                      (try subst hji59)
                      go_roundg k5
                      case measure => have := HK1.out; have := HK2.out; have := HK3.out; have := HK4.out; have := HK5.out; omega
                      case rel => exact ⟨(x9_5), (wrap64 (x13_4 + 1)), (by first | rfl | (simp; done) | (simp [*]; done)), H', ⟨by have := HK1.out; have := HK2.out; have := HK3.out; have := HK4.out; have := HK5.out; omega⟩, ⟨by (try simp only [hl9_2]); (try simp only [hl9_3]); (try simp only [hl9_4]); (try simp only [hl9_5]); (with_reducible repeat (first | apply Kd.R_alloc | apply Kd.R_drewN | apply Kd.R_drew)); exact HO_9.out⟩, ⟨by (try simp only [hl9_2]); (try simp only [hl9_3]); (try simp only [hl9_4]); (try simp only [hl9_5]); (with_reducible repeat first | refine b_N ?_ _ | refine b_D ?_ | refine b_A ?_ _); exact BK0.out⟩, ⟨by repeat (first | (with_reducible first | exact HB.out | apply below_alloc | apply pw_below_drewN | apply below_drew1) | exact HB.out)⟩⟩
                 ·rw [if_neg c26] at H
                  have c26b0 : decide (x13_4 ≤ a1) = false := decide_eq_false c26
                  clear c26
                  have H' := Aside0.mk H
                  clear H
                  go_wp2
                  (try simp only [← hl9_3, ← hl9_4])
                  (try subst hji59)
                  go_roundg k4
                  case measure => have := HK1.out; have := HK2.out; have := HK3.out; have := HK4.out; omega
                  case rel => exact ⟨(x9_4), (wrap64 (x12_3 + 1)), (by first | rfl | (simp; done) | (simp [*]; done)), H', ⟨by have := HK1.out; have := HK2.out; have := HK3.out; have := HK4.out; omega⟩, ⟨by (try simp only [hl9_2]); (try simp only [hl9_3]); (try simp only [hl9_4]); (with_reducible repeat (first | apply Kd.R_alloc | apply Kd.R_drewN | apply Kd.R_drew)); exact HO_9.out⟩, ⟨by (try simp only [hl9_2]); (try simp only [hl9_3]); (try simp only [hl9_4]); (with_reducible repeat first | refine b_N ?_ _ | refine b_D ?_ | refine b_A ?_ _); exact BK0.out⟩, ⟨by repeat (first | (with_reducible first | exact HB.out | apply below_alloc | apply pw_below_drewN | apply below_drew1) | exact HB.out)⟩⟩
             ·rw [if_neg c23] at H
              exact absurd H (by simp)
            ·rw [if_neg c21] at H
             have c21b0 : decide (x12_3 < (l0_0.length : Int)) = false := decide_eq_false c21
             clear c21
             have H' := Aside0.mk H
             clear H
             go_wp2
             (try simp only [← hl9_2, ← hl9_3])
             (try subst hji59)
             go_roundg k3
             case measure => have := HK1.out; have := HK2.out; have := HK3.out; omega
             case rel => exact ⟨(x9_3), (wrap64 (x11_2 - 1)), (by first | rfl | (simp; done) | (simp [*]; done)), H', ⟨by have := HK1.out; have := HK2.out; have := HK3.out; omega⟩, ⟨by (try simp only [hl9_2]); (try simp only [hl9_3]); (with_reducible repeat (first | apply Kd.R_alloc | apply Kd.R_drewN | apply Kd.R_drew)); exact HO_9.out⟩, ⟨by (try simp only [hl9_2]); (try simp only [hl9_3]); (with_reducible repeat first | refine b_N ?_ _ | refine b_D ?_ | refine b_A ?_ _); exact BK0.out⟩, ⟨by repeat (first | (with_reducible first | exact HB.out | apply below_alloc | apply pw_below_drewN | apply below_drew1) | exact HB.out)⟩⟩
         ·rw [if_neg c20] at H
          have c20b0 : decide (0 < x11_2) = false := decide_eq_false c20
          clear c20
          obtain rfl := Option.some.inj H
          go_wp2
          go_ret
          exact ⟨_, by first | rfl | (simp [errW_none, errW_some] <;> rfl) | (simp only [← hji4, ← hji6, ← hji7]; first | rfl | (simp [errW_none, errW_some] <;> rfl)) | (simp [*, errW_none, errW_some] <;> rfl), by (with_reducible repeat (first | apply Kd.R_alloc | apply Kd.R_drewN | apply Kd.R_drew)); exact HO_9.out, by repeat (first | (with_reducible first | exact HB.out | apply below_alloc | apply pw_below_drewN | apply below_drew1) | exact HB.out)⟩
   ·rw [if_neg c9] at H
    exact absurd H (by simp)
  ·rw [if_neg c8] at H
   exact absurd H (by simp)
 ·rw [if_neg c5] at H
  exact absurd H (by simp)
end Go.Proofs.Ytaapbnhggfmlpaa.P
end
section
namespace Go.Proofs.Ytaapbnhggfmlpaa.P
open Go.RowKit Go.Proofs.YtaapbnhggfmlpaaW.PrintWords Go.Proofs.YtaapbnhggfmlpaaW.PrintLast Go.Proofs.YtaapbnhggfmlpaaW.PrintMore
attribute [local go_sem] max2_int min2_int max_two min_two max_three min_three max_four min_four   -- for this text's walks alone
set_option linter.unusedVariables false
set_option linter.unusedSimpArgs false
mutual
def spec_l10Follow.l0 : Nat → Int → Int → Int → List Int → Int → Int → List (List Int) → Option (List Int × Int)
 | 0, _, _, _, _, _, _, _ => none
 | k + 1, x1, x2, x10, x11, x12, x13, x1000 => if x13 < x10 then (if 0 ≤ (IntKind.u64.wrap (x13)) then (if 0 ≤ (wrap64 ((wrap64 ((wrap64 ((wrap64 ((shl .i64 1 (IntKind.u64.wrap (x13))) * 9)) + x13)) * 9)) + x1)) then (if (wrap64 ((wrap64 ((wrap64 ((wrap64 ((shl .i64 1 (IntKind.u64.wrap (x13))) * 9)) + x13)) * 9)) + x1)) < (x11.length : Int) then (if (rd x11 (wrap64 ((wrap64 ((wrap64 ((wrap64 ((shl .i64 1 (IntKind.u64.wrap (x13))) * 9)) + x13)) * 9)) + x1))) ≥ 0 then (if x2 < 0 then (if x12 < 0 then (spec_l10Follow.j1 k x1 x2 x10 x11 x12 x13 (rd x11 (wrap64 ((wrap64 ((wrap64 ((wrap64 ((shl .i64 1 (IntKind.u64.wrap (x13))) * 9)) + x13)) * 9)) + x1))) true x1000) else (spec_l10Follow.j1 k x1 x2 x10 x11 x12 x13 (rd x11 (wrap64 ((wrap64 ((wrap64 ((wrap64 ((shl .i64 1 (IntKind.u64.wrap (x13))) * 9)) + x13)) * 9)) + x1))) (decide ((rd x11 (wrap64 ((wrap64 ((wrap64 ((wrap64 ((shl .i64 1 (IntKind.u64.wrap (x13))) * 9)) + x13)) * 9)) + x1))) < x12)) x1000)) else (if x13 = x2 then (if x12 < 0 then (spec_l10Follow.j1 k x1 x2 x10 x11 x12 x13 (rd x11 (wrap64 ((wrap64 ((wrap64 ((wrap64 ((shl .i64 1 (IntKind.u64.wrap (x13))) * 9)) + x13)) * 9)) + x1))) true x1000) else (spec_l10Follow.j1 k x1 x2 x10 x11 x12 x13 (rd x11 (wrap64 ((wrap64 ((wrap64 ((wrap64 ((shl .i64 1 (IntKind.u64.wrap (x13))) * 9)) + x13)) * 9)) + x1))) (decide ((rd x11 (wrap64 ((wrap64 ((wrap64 ((wrap64 ((shl .i64 1 (IntKind.u64.wrap (x13))) * 9)) + x13)) * 9)) + x1))) < x12)) x1000)) else (spec_l10Follow.j1 k x1 x2 x10 x11 x12 x13 (rd x11 (wrap64 ((wrap64 ((wrap64 ((wrap64 ((shl .i64 1 (IntKind.u64.wrap (x13))) * 9)) + x13)) * 9)) + x1))) false x1000))) else (spec_l10Follow.j1 k x1 x2 x10 x11 x12 x13 (rd x11 (wrap64 ((wrap64 ((wrap64 ((wrap64 ((shl .i64 1 (IntKind.u64.wrap (x13))) * 9)) + x13)) * 9)) + x1))) false x1000)) else (none)) else (none)) else (none)) else (spec_l10Follow.l1 k x2 x10 x11 x12 (([] : List Int)) (([x1] : List Int)) (([x12] : List Int)) 0 x1000)
def spec_l10Follow.j1 : Nat → Int → Int → Int → List Int → Int → Int → Int → Bool → List (List Int) → Option (List Int × Int)
 | 0, _, _, _, _, _, _, _, _, _ => none
 | k + 1, x1, x2, x10, x11, x12, x13, x14, x72, x1000 => if x72 = true then (spec_l10Follow.l0 k x1 x2 x10 x11 x14 (wrap64 (x13 + 1)) x1000) else (spec_l10Follow.l0 k x1 x2 x10 x11 x12 (wrap64 (x13 + 1)) x1000)
def spec_l10Follow.l1 : Nat → Int → Int → List Int → Int → List Int → List Int → List Int → Int → List (List Int) → Option (List Int × Int)
 | 0, _, _, _, _, _, _, _, _, _ => none
 | k + 1, x2, x10, x11, x12, x15, x16, x17, x18, x1000 => if (x15.length : Int) < x10 then (spec_l10Follow.l2 k x2 x10 x11 x12 x15 x16 x17 x18 false 0 x1000) else (some (x15, x12))
def spec_l10Follow.l2 : Nat → Int → Int → List Int → Int → List Int → List Int → List Int → Int → Bool → Int → List (List Int) → Option (List Int × Int)
 | 0, _, _, _, _, _, _, _, _, _, _, _ => none
 | k + 1, x2, x10, x11, x12, x15, x16, x17, x18, x19, x20, x1000 => if x20 < x10 then (spec_l10Follow.j4 k x2 x10 x11 x12 x15 x16 x17 x18 x19 x20 (!x19) x1000) else (spec_l10Follow.j4 k x2 x10 x11 x12 x15 x16 x17 x18 x19 x20 false x1000)
def spec_l10Follow.j4 : Nat → Int → Int → List Int → Int → List Int → List Int → List Int → Int → Bool → Int → Bool → List (List Int) → Option (List Int × Int)
 | 0, _, _, _, _, _, _, _, _, _, _, _, _ => none
 | k + 1, x2, x10, x11, x12, x15, x16, x17, x18, x19, x20, x89, x1000 => if x89 = true then (if 0 ≤ (IntKind.u64.wrap (x20)) then (if (Go.bits .and .i64 (shr .i64 x18 (IntKind.u64.wrap (x20))) 1) = 1 then (spec_l10Follow.j5 k x2 x10 x11 x12 x15 x16 x17 x18 x19 x20 true x1000) else (if (x15.length : Int) = 0 then (if x2 ≥ 0 then (spec_l10Follow.j5 k x2 x10 x11 x12 x15 x16 x17 x18 x19 x20 (x20 != x2) x1000) else (spec_l10Follow.j5 k x2 x10 x11 x12 x15 x16 x17 x18 x19 x20 false x1000)) else (spec_l10Follow.j5 k x2 x10 x11 x12 x15 x16 x17 x18 x19 x20 false x1000))) else (none)) else (spec_l10Follow.l1 k x2 x10 x11 x12 x15 x16 x17 x18 x1000)
def spec_l10Follow.j5 : Nat → Int → Int → List Int → Int → List Int → List Int → List Int → Int → Bool → Int → Bool → List (List Int) → Option (List Int × Int)
 | 0, _, _, _, _, _, _, _, _, _, _, _, _ => none
 | k + 1, x2, x10, x11, x12, x15, x16, x17, x18, x19, x20, x111, x1000 => if x111 = true then (spec_l10Follow.l2 k x2 x10 x11 x12 x15 x16 x17 x18 x19 (wrap64 (x20 + 1)) x1000) else (if 0 ≤ (IntKind.u64.wrap (x20)) then (spec_l10Follow.l3 k x2 x10 x11 x12 x15 x16 x17 x18 x19 x20 (([] : List Int)) (([] : List Int)) (wrap64 ((wrap64 ((wrap64 ((Go.bits .or .i64 x18 (shl .i64 1 (IntKind.u64.wrap (x20)))) * 9)) + x20)) * 9)) 0 x1000) else (none))
def spec_l10Follow.l3 : Nat → Int → Int → List Int → Int → List Int → List Int → List Int → Int → Bool → Int → List Int → List Int → Int → Int → List (List Int) → Option (List Int × Int)
 | 0, _, _, _, _, _, _, _, _, _, _, _, _, _, _, _ => none
 | k + 1, x2, x10, x11, x12, x15, x16, x17, x18, x19, x20, x21, x22, x23, x24, x1000 => if x24 < (x16.length : Int) then (spec_l10Follow.l4 k x2 x10 x11 x12 x15 x16 x17 x18 x19 x20 x21 x22 x23 x24 0 x1000) else (if (x21.length : Int) > 0 then (if 0 ≤ (IntKind.u64.wrap (x20)) then (if x15.length < 17592186044416 then (spec_l10Follow.l2 k x2 x10 x11 x12 (x15 ++ [x20]) x21 x22 (Go.bits .or .i64 x18 (shl .i64 1 (IntKind.u64.wrap (x20)))) true (wrap64 (x20 + 1)) x1000) else (none)) else (none)) else (spec_l10Follow.l2 k x2 x10 x11 x12 x15 x16 x17 x18 x19 (wrap64 (x20 + 1)) x1000))
def spec_l10Follow.l4 : Nat → Int → Int → List Int → Int → List Int → List Int → List Int → Int → Bool → Int → List Int → List Int → Int → Int → Int → List (List Int) → Option (List Int × Int)
 | 0, _, _, _, _, _, _, _, _, _, _, _, _, _, _, _, _ => none
 | k + 1, x2, x10, x11, x12, x15, x16, x17, x18, x19, x20, x21, x22, x23, x24, x25, x1000 => if 0 ≤ x24 then (if x24 < (x16.length : Int) then ((spec_l00Min.f 1 (rd x16 x24)).bind fun t888 => (if x25 ≤ t888 then (if x24 < (x17.length : Int) then (if (x15.length : Int) = 0 then (if x25 = 1 then (spec_l10Follow.l4 k x2 x10 x11 x12 x15 x16 x17 x18 x19 x20 x21 x22 x23 x24 (wrap64 (x25 + 1)) x1000) else (spec_l10Follow.j8 k x2 x10 x11 x12 x15 x16 x17 x18 x19 x20 x21 x22 x23 x24 x25 (rd x17 x24) x1000)) else (if x25 = 0 then (if 0 ≤ (wrap64 ((x15.length : Int) - 1)) then (if (wrap64 ((x15.length : Int) - 1)) < (x15.length : Int) then (if 0 ≤ (rd x15 (wrap64 ((x15.length : Int) - 1))) then (if (rd x15 (wrap64 ((x15.length : Int) - 1))) < (x1000.length : Int) then (if 0 ≤ x20 then (if x20 < ((rd_Ls2 x1000 (rd x15 (wrap64 ((x15.length : Int) - 1)))).length : Int) then (spec_l10Follow.j8 k x2 x10 x11 x12 x15 x16 x17 x18 x19 x20 x21 x22 x23 x24 x25 (wrap64 ((rd x17 x24) - (rd (rd_Ls2 x1000 (rd x15 (wrap64 ((x15.length : Int) - 1)))) x20))) x1000) else (none)) else (none)) else (none)) else (none)) else (none)) else (none)) else (spec_l10Follow.j8 k x2 x10 x11 x12 x15 x16 x17 x18 x19 x20 x21 x22 x23 x24 x25 (rd x17 x24) x1000))) else (none)) else (spec_l10Follow.l3 k x2 x10 x11 x12 x15 x16 x17 x18 x19 x20 x21 x22 x23 (wrap64 (x24 + 1)) x1000))) else (none)) else (none)
def spec_l10Follow.j8 : Nat → Int → Int → List Int → Int → List Int → List Int → List Int → Int → Bool → Int → List Int → List Int → Int → Int → Int → Int → List (List Int) → Option (List Int × Int)
 | 0, _, _, _, _, _, _, _, _, _, _, _, _, _, _, _, _, _ => none
 | k + 1, x2, x10, x11, x12, x15, x16, x17, x18, x19, x20, x21, x22, x23, x24, x25, x26, x1000 => if x26 < 0 then (spec_l10Follow.j9 k x2 x10 x11 x12 x15 x16 x17 x18 x19 x20 x21 x22 x23 x24 x25 x26 true x1000) else (if 0 ≤ x24 then (if x24 < (x16.length : Int) then (if 0 ≤ (wrap64 ((wrap64 (x23 + (rd x16 x24))) - x25)) then (if (wrap64 ((wrap64 (x23 + (rd x16 x24))) - x25)) < (x11.length : Int) then (if (rd x11 (wrap64 ((wrap64 (x23 + (rd x16 x24))) - x25))) = x26 then ((spec_l00Has.f k x21 (wrap64 ((rd x16 x24) - x25))).bind fun t896 => (spec_l10Follow.j9 k x2 x10 x11 x12 x15 x16 x17 x18 x19 x20 x21 x22 x23 x24 x25 x26 t896 x1000)) else (spec_l10Follow.j9 k x2 x10 x11 x12 x15 x16 x17 x18 x19 x20 x21 x22 x23 x24 x25 x26 true x1000)) else (none)) else (none)) else (none)) else (none))
def spec_l10Follow.j9 : Nat → Int → Int → List Int → Int → List Int → List Int → List Int → Int → Bool → Int → List Int → List Int → Int → Int → Int → Int → Bool → List (List Int) → Option (List Int × Int)
 | 0, _, _, _, _, _, _, _, _, _, _, _, _, _, _, _, _, _, _ => none
 | k + 1, x2, x10, x11, x12, x15, x16, x17, x18, x19, x20, x21, x22, x23, x24, x25, x26, x192, x1000 => if x192 = true then (spec_l10Follow.l4 k x2 x10 x11 x12 x15 x16 x17 x18 x19 x20 x21 x22 x23 x24 (wrap64 (x25 + 1)) x1000) else (if 0 ≤ x24 then (if x24 < (x16.length : Int) then (if x21.length < 17592186044416 then (if x22.length < 17592186044416 then (spec_l10Follow.l4 k x2 x10 x11 x12 x15 x16 x17 x18 x19 x20 (x21 ++ [wrap64 ((rd x16 x24) - x25)]) (x22 ++ [x26]) x23 x24 (wrap64 (x25 + 1)) x1000) else (none)) else (none)) else (none)) else (none))
end
def spec_l10Follow.f (k : Nat) (l0_0 : List (List Int)) (a1 : Int) (a2 : Int) (a3 : Int) : Option (List Int × Int) := (spec_l10Left.f k l0_0 a1 a3).bind fun t868 => (spec_l10Follow.l0 k a1 a2 (l0_0.length : Int) t868 (-1) 0 l0_0)
end Go.Proofs.Ytaapbnhggfmlpaa.P
end
