/- Lemmas and contracts of functions, part 2 of 9, for this law: The law FnExactBestBetween holds for every input. -/
import Derived.Test.YtaapbnhggfmlpaaExBetQ1
import Derived.Below
import Derived.OwnWalk
import Derived.Deep.Draws
import Derived.Test.YtaapbnhggfmlpaaProg
import Derived.DeepKeys4
import Derived.Maps.OwnSet
import Derived.Maps.RangeWalk
import Derived.Maps.Ext
import Derived.WalkKit
import Derived.KernelRfl
import Derived.Laws.BitsLemmas
import Derived.IntWalk
import Derived.StillTailTactics
import Derived.Outline
import Derived.Handy
section
namespace Go.Proofs.Ytaapbnhggfmlpaa.P
open Go.RowKit Go.Proofs.YtaapbnhggfmlpaaW.PrintWords Go.Proofs.YtaapbnhggfmlpaaW.PrintLast Go.Proofs.YtaapbnhggfmlpaaW.PrintMore
attribute [local go_sem] max2_int min2_int max_two min_two max_three min_three max_four min_four   -- for this text's walks alone
set_option linter.unusedVariables false
set_option linter.unusedSimpArgs false
def laws_markInt64S.l0 : Nat → List Int → Int → Int → Option (Int × List Int)
 | 0, _, _, _ => none
 | k + 1, x0, x1, x5 => if x5 < (x0.length : Int) then (if 0 ≤ x5 then (laws_markInt64S.l0 k (x0.set (x5 : Int).toNat x1) (wrap64 (x1 + 1)) (wrap64 (x5 + 1))) else (none)) else (some (x1, x0))
def laws_markInt64S.f (k : Nat) (l0 : List Int) (a1 : Int) : Option (Int × List Int) := laws_markInt64S.l0 k l0 a1 0
set_option maxHeartbeats 4000000 in
set_option maxRecDepth 100000 in
theorem laws_markInt64S.calls (k : Nat) (P0_ : Nat → Prop) (u9000_ : Value) (l0 : List Int) (a1 : Int) (r1 : Int) (r2 : List Int) (w0 w : World) (hB : Below w0.heap.size w0 w) (ho0 : Kd.R (Kd.int .i64) 2 w w0.heap.size P0_ u9000_ l0) (h : laws_markInt64S.f k l0 a1 = some (r1, r2)) :
  Calls Try.prog 48 #[u9000_, .int .i64 a1] w fun e w' => e = .returned (.int .i64 r1) ∧ Kd.R (Kd.int .i64) 2 w' w0.heap.size (fun k_ => (P0_ k_ ∨ w.heap.size ≤ k_)) u9000_ r2 ∧ Below w0.heap.size w0 w' ∧ Kept w w' (fun k_ => P0_ k_) := by
 have HO0 := Aside0.mk (show Kd.R (Kd.int .i64) 2 w w0.heap.size (fun k_ => (P0_ k_ ∨ w.heap.size ≤ k_)) u9000_ l0 from Kd.R_mono ho0 (fun k_ hk => (.inl hk)))
 have HK := Aside0.mk (Kept.refl w (fun k_ => P0_ k_))
 have HW0 := Aside0.mk hB.size
 have HB := Aside0.mk hB
 clear hB
 have H : (laws_markInt64S.l0 k l0 a1 0) = some (r1, r2) := h
 clear h
 have H' := Aside0.mk H
 clear H
 go_enter Try.func48, Try.ntmps48
 go_wp2
 go_loopg [1, 5] k (fun kq v1 v5 w' => ∃ (x0_1 : List Int) (x1_1 : Int) (x5_1 : Int), v1 = .int .i64 x1_1 ∧ v5 = .int .i64 x5_1 ∧ Aside0 (laws_markInt64S.l0 kq x0_1 x1_1 x5_1 = some (r1, r2)) ∧ Aside0 (kq ≤ k) ∧ Aside0 (Kd.R (Kd.int .i64) 2 w' w0.heap.size (fun k_ => (P0_ k_ ∨ w.heap.size ≤ k_)) u9000_ x0_1) ∧ Aside0 (Kept w w' (fun k_ => P0_ k_)) ∧ Aside0 (Below w0.heap.size w0 w'))
 case atStart => exact ⟨(l0), (a1), (0), (by first | rfl | (simp; done) | (simp [*]; done)), (by first | rfl | (simp; done) | (simp [*]; done)), H', ⟨Nat.le_refl _⟩, ⟨by (with_reducible repeat (first | apply Kd.R_alloc | apply Kd.R_drewN | apply Kd.R_drew)); exact HO0.out⟩, ⟨by repeat (first | (with_reducible first | exact HK.out | apply Kept.alloc | apply Kept.drewN | apply Kept.drew) | exact HK.out)⟩, ⟨by repeat (first | (with_reducible first | exact HB.out | apply below_alloc | apply pw_below_drewN | apply below_drew1) | exact HB.out)⟩⟩
 case round =>
  clear H'
  try clear p2
  obtain ⟨x0_1, x1_1, x5_1, rfl, rfl, HA, HK1, HO_0, HK, HB⟩ := hrel
  cases gk with
  | zero => exact absurd HA.out (by simp [laws_markInt64S.l0])
  | succ k1 =>
   have H := HA.out
   clear HA
   simp only [laws_markInt64S.l0] at H
   by_cases c3 : x5_1 < (x0_1.length : Int)
   ·rw [if_pos c3] at H
    have c3b0 : decide (x5_1 < (x0_1.length : Int)) = true := decide_eq_true c3
    clear c3
    by_cases c4 : 0 ≤ x5_1
    ·rw [if_pos c4] at H
     have c4b0 : decide (0 ≤ x5_1) = true := decide_eq_true c4
     clear c4
     obtain ⟨y847, hy847⟩ : ∃ y_ : List Int, y_ = (x0_1.set (x5_1 : Int).toNat x1_1) := ⟨_, rfl⟩
     replace H : (laws_markInt64S.l0 k1 y847 (wrap64 (x1_1 + 1)) (wrap64 (x5_1 + 1))) = some (r1, r2) := by first | (rw [hy847]; with_reducible exact H) | (have H2_ := (Option.bind_some _ _).symm.trans H; rw [hy847]; with_reducible exact H2_) | (have H2_ := (Option.bind_some _ _).symm.trans H; with_reducible exact H2_) | with_reducible exact H | (rw [hy847]; exact H) | exact H
     have Ny847 := Aside0.mk hy847
     clear hy847
     have H' := Aside0.mk H
     clear H
     obtain ⟨Ao6, co6, eo6⟩ := Kd.R_slice HO_0.out
     subst eo6
     have p5 : 0 ≤ (x5_1 : Int) := of_decide_eq_true (by first | (with_reducible assumption) | assumption)
     have q5 : (x5_1 : Int) < ((x0_1.length : Int) : Int) := of_decide_eq_true (by first | (with_reducible assumption) | assumption)
     obtain ⟨go5, co5, eo5, gb5, gl5, cl5, HG5⟩ := Kd.R_form HO_0.out (by omega)
     (first | cases eo5 | (injection eo5 with ea_ en_ ec_; (first | subst ea_ | (injection ea_ with ea_; subst ea_)); subst ec_; clear en_))
     have GB5 := Aside0.mk gb5
     have GG5 := Aside0.mk HG5
     clear gb5 gl5 HG5
     have HMgo5 := Aside0.mk (show (P0_ go5 ∨ w.heap.size ≤ go5) from (HO_0.out.1 _ rfl))
     obtain ⟨hx5_0, hf5_0⟩ := Kd.R_celln 0 HO_0.out (x5_1 : Int) p5 q5
     replace p5 := eq_true p5
     replace q5 := eq_true q5
     have HP7 := Kd.R_putg HO_0.out (x5_1 : Int) x1_1
     go_wp2_with (first | ((with_reducible refine gate_store (t := 2) (p := 15) rfl ?_); refine store_event (t := 2) (p := 15) (v := ?vo_w8) (w1 := (wr.setCell ⟨go5, (x5_1 : Int).toNat, none⟩ (.int .i64 x1_1))) ?hg ?ho ?hn ?hr ?_; (case ho => rfl); (case hg => rfl); (case hn => rfl); (case hr => first | (go_simp; done) | (go_simp; rfl)); intro w8 hw; have hg : wr.grownBy w8 (some go5) := (by rw [hw]; exact HP7.2); have hp_ : Kd.R (Kd.int .i64) 2 w8 w0.heap.size (fun k_ => (P0_ k_ ∨ w.heap.size ≤ k_)) (.slice (some ⟨go5, 0, none⟩) x0_1.length co6) y847 := (by rw [hw, Ny847.out]; exact HP7.1); clear HP7; have n0_ := Aside0.mk (hp_); have n1_ := Aside0.mk ((by rw [hw]; exact below_set (HB.out) GB5.out : Below w0.heap.size w0 w8)); have n2_ := Aside0.mk (Kept.of_grown (S := (fun k_ => P0_ k_)) hg (by repeat (first | (with_reducible first | exact HK.out | apply Kept.alloc | apply Kept.drewN | apply Kept.drew) | exact HK.out)) (fun k_ e_ => (HO_0.out.1 k_ e_))); clear HO_0; clear HB; clear HK; have HO_0 := n0_; have HB := n1_; have HK := n2_; clear n0_ n1_ n2_; clear hg hw hp_))
     go_roundg k1
     case measure => have := HK1.out; omega
     case rel => exact ⟨(y847), (wrap64 (x1_1 + 1)), (wrap64 (x5_1 + 1)), (by first | rfl | (simp; done) | (simp [*]; done)), (by first | rfl | (simp; done) | (simp [*]; done)), H', ⟨by have := HK1.out; omega⟩, ⟨by (with_reducible repeat (first | apply Kd.R_alloc | apply Kd.R_drewN | apply Kd.R_drew)); exact HO_0.out⟩, ⟨by repeat (first | (with_reducible first | exact HK.out | apply Kept.alloc | apply Kept.drewN | apply Kept.drew) | exact HK.out)⟩, ⟨by repeat (first | (with_reducible first | exact HB.out | apply below_alloc | apply pw_below_drewN | apply below_drew1) | exact HB.out)⟩⟩
    ·rw [if_neg c4] at H
     exact absurd H (by simp)
   ·rw [if_neg c3] at H
    have c3b0 : decide (x5_1 < (x0_1.length : Int)) = false := decide_eq_false c3
    clear c3
    simp only [Option.some.injEq, Prod.mk.injEq] at H
    obtain ⟨rfl, rfl⟩ := H
    obtain ⟨Ao9, co9, eo9⟩ := Kd.R_slice HO_0.out
    subst eo9
    go_wp2
    go_ret
    exact ⟨by first | rfl | (simp [errW_none, errW_some] <;> rfl) | (simp [*, errW_none, errW_some] <;> rfl), by (with_reducible repeat (first | apply Kd.R_alloc | apply Kd.R_drewN | apply Kd.R_drew)); exact HO_0.out, by repeat (first | (with_reducible first | exact HB.out | apply below_alloc | apply pw_below_drewN | apply below_drew1) | exact HB.out), by repeat (first | (with_reducible first | exact HK.out | apply Kept.alloc | apply Kept.drewN | apply Kept.drew) | exact HK.out)⟩
end Go.Proofs.Ytaapbnhggfmlpaa.P
end
section
set_option linter.unusedVariables false
namespace Go.Proofs.Ytaapbnhggfmlpaa.M
open Go.RowKit
structure Fr (F : Nat → Prop) (w w' : World) : Prop where
  os : w'.os = w.os
  tape : w'.tape = w.tape
  output : w'.output = w.output
  size : w.heap.size ≤ w'.heap.size
  block : ∀ i, i < w.heap.size → ¬ F i → w'.heap[i]? = w.heap[i]?
section
variable {F F' : Nat → Prop} {w w1 w2 : World} {B : Nat}
theorem Fr.refl (F : Nat → Prop) (w : World) : Fr F w w := ⟨rfl, rfl, rfl, Nat.le_refl _, fun _ _ _ => rfl⟩
theorem Fr.trans (h : Fr F w w1) (k : Fr F w1 w2) : Fr F w w2 :=
  ⟨k.os.trans h.os, k.tape.trans h.tape, k.output.trans h.output, Nat.le_trans h.size k.size, fun i hi hn => (k.block i (Nat.lt_of_lt_of_le hi h.size) hn).trans (h.block i hi hn)⟩
theorem Fr.then_ (h : Fr F w w1) (k : Fr F' w1 w2) (hs : ∀ i, F' i → F i ∨ w.heap.size ≤ i) : Fr F w w2 :=
  ⟨k.os.trans h.os, k.tape.trans h.tape, k.output.trans h.output, Nat.le_trans h.size k.size, fun i hi hn => (k.block i (Nat.lt_of_lt_of_le hi h.size) (fun h2 => (hs i h2).elim hn (fun h3 => by omega))).trans (h.block i hi hn)⟩
theorem Fr.of_below (h : Below w.heap.size w w1) : Fr F w w1 := ⟨h.os, h.tape, h.output, h.size, fun i hi _ => h.block i hi⟩
theorem Fr.of_grown {row : Option Nat} (h : w.grownBy w1 row) (hr : ∀ k, row = some k → F k) : Fr F w w1 :=
  ⟨h.os, h.tape, h.output, h.size, fun i hi hn => h.block i hi (fun e => hn (hr i e.symm))⟩
theorem Fr.below (hb : Below B w w1) (h : Fr F w1 w2) (hB : B ≤ w1.heap.size) (hF : ∀ k, F k → B ≤ k) : Below B w w2 :=
  ⟨h.os.trans hb.os, h.tape.trans hb.tape, h.output.trans hb.output, Nat.le_trans hb.size h.size, fun i hi => (h.block i (by omega) (fun hf => by have := hF i hf; omega)).trans (hb.block i hi)⟩
theorem Fr.blk (h : Fr F w w1) {g : Nat} {o : Obj} (hb : w.heap[g]? = some o) (hF : ¬ F g) : w1.heap[g]? = some o :=
  (h.block g (by
    rcases Nat.lt_or_ge g w.heap.size with hlt | hge
    · exact hlt
    · rw [Array.getElem?_eq_none hge] at hb; cases hb) hF).trans hb
end
end Go.Proofs.Ytaapbnhggfmlpaa.M
end
section
namespace Go.Proofs.Ytaapbnhggfmlpaa.P
open Go.RowKit Go.Proofs.YtaapbnhggfmlpaaW.PrintWords Go.Proofs.YtaapbnhggfmlpaaW.PrintLast Go.Proofs.YtaapbnhggfmlpaaW.PrintMore
attribute [local go_sem] max2_int min2_int max_two min_two max_three min_three max_four min_four   -- for this text's walks alone
set_option linter.unusedVariables false
set_option linter.unusedSimpArgs false
def impl_in.f (a0 : Int) (a1 : Int) (a2 : Int) : Option (Bool) := if a0 ≥ a1 then (some (decide (a0 ≤ a2))) else (some false)
set_option maxHeartbeats 4000000 in
set_option maxRecDepth 100000 in
theorem impl_in.calls (a0 : Int) (a1 : Int) (a2 : Int) (r : Bool) (w : World) (h : impl_in.f a0 a1 a2 = some r) :
  Calls Try.prog 64 #[.int .i64 a0, .int .i64 a1, .int .i64 a2] w fun e w' => e = .returned (.bool r) ∧ Drawn0 w w' := by
 have H : (if a0 ≥ a1 then (some (decide (a0 ≤ a2))) else (some false)) = some r := h
 clear h
 by_cases c4 : a0 ≥ a1
 ·rw [if_pos c4] at H
  have c4b0 : decide (a1 ≤ a0) = true := decide_eq_true c4
  clear c4
  obtain rfl := Option.some.inj H
  go_enter Try.func64, Try.ntmps64
  go_wp2
  go_ret
  exact ⟨by first | rfl | (simp; done) | (simp [*]; done), by repeat (first | exact Drawn0.refl _ | apply Drawn0.step)⟩
 ·rw [if_neg c4] at H
  have c4b0 : decide (a1 ≤ a0) = false := decide_eq_false c4
  clear c4
  obtain rfl := Option.some.inj H
  go_enter Try.func64, Try.ntmps64
  go_wp2
  go_ret
  exact ⟨by first | rfl | (simp; done) | (simp [*]; done), by repeat (first | exact Drawn0.refl _ | apply Drawn0.step)⟩
end Go.Proofs.Ytaapbnhggfmlpaa.P
end
section
namespace Go.Proofs.Ytaapbnhggfmlpaa.P
open Go.RowKit Go.Proofs.YtaapbnhggfmlpaaW.PrintWords Go.Proofs.YtaapbnhggfmlpaaW.PrintLast Go.Proofs.YtaapbnhggfmlpaaW.PrintMore
attribute [local go_sem] max2_int min2_int max_two min_two max_three min_three max_four min_four   -- for this text's walks alone
set_option linter.unusedVariables false
set_option linter.unusedSimpArgs false
mutual
def impl_ValidBundle.l0 : Nat → Int → List (List Int) → Int → Int → List (List Int) → Option (Bool)
 | 0, _, _, _, _, _ => none
 | k + 1, x3, x15, x16, x17, x353000 => if x17 < x16 then (if 0 ≤ x17 then (if x17 < (x15.length : Int) then (if ((rd_Ls2 x15 x17).length : Int) = x3 then (if x17 < ((rd_Ls2 x15 x17).length : Int) then (impl_ValidBundle.j1 k x3 x17 (rd_Ls2 x15 x17) x15 x16 x17 ((rd (rd_Ls2 x15 x17) x17) != 0) x353000) else (none)) else (impl_ValidBundle.j1 k x3 x17 (rd_Ls2 x15 x17) x15 x16 x17 true x353000)) else (none)) else (none)) else (some true)
def impl_ValidBundle.j1 : Nat → Int → Int → List Int → List (List Int) → Int → Int → Bool → List (List Int) → Option (Bool)
 | 0, _, _, _, _, _, _, _, _ => none
 | k + 1, x3, x4, x5, x15, x16, x17, x32, x353000 => if x32 = true then (some false) else (impl_ValidBundle.l1 k x3 x4 x15 x16 x17 x5 (x5.length : Int) 0 x353000)
def impl_ValidBundle.l1 : Nat → Int → Int → List (List Int) → Int → Int → List Int → Int → Int → List (List Int) → Option (Bool)
 | 0, _, _, _, _, _, _, _, _, _ => none
 | k + 1, x3, x4, x15, x16, x17, x33, x34, x35, x353000 => if x35 < x34 then (if 0 ≤ x35 then (if x35 < (x33.length : Int) then ((impl_in.f (rd x33 x35) 0 1000).bind fun t357 => (if t357 = true then (if x35 < (x353000.length : Int) then (if ((rd_Ls2 x353000 x35).length : Int) = x3 then (if 0 ≤ x4 then (if x4 < ((rd_Ls2 x353000 x35).length : Int) then (impl_ValidBundle.j3 k x3 x4 x15 x16 x17 x33 x34 x35 ((rd (rd_Ls2 x353000 x35) x4) != (rd x33 x35)) x353000) else (none)) else (none)) else (impl_ValidBundle.j3 k x3 x4 x15 x16 x17 x33 x34 x35 true x353000)) else (none)) else (impl_ValidBundle.j3 k x3 x4 x15 x16 x17 x33 x34 x35 true x353000))) else (none)) else (none)) else (impl_ValidBundle.l0 k x3 x15 x16 (wrap64 (x17 + 1)) x353000)
def impl_ValidBundle.j3 : Nat → Int → Int → List (List Int) → Int → Int → List Int → Int → Int → Bool → List (List Int) → Option (Bool)
 | 0, _, _, _, _, _, _, _, _, _, _ => none
 | k + 1, x3, x4, x15, x16, x17, x33, x34, x35, x64, x353000 => if x64 = true then (some false) else (impl_ValidBundle.l1 k x3 x4 x15 x16 x17 x33 x34 (wrap64 (x35 + 1)) x353000)
end
def impl_ValidBundle.f (k : Nat) (l0_0 : List (List Int)) : Option (Bool) := (impl_in.f (l0_0.length : Int) 1 9).bind fun t353 => (if t353 = true then (impl_ValidBundle.l0 k (l0_0.length : Int) l0_0 (l0_0.length : Int) 0 l0_0) else (some false))
set_option maxHeartbeats 4000000 in
set_option maxRecDepth 100000 in
theorem impl_ValidBundle.calls (k : Nat) (A0_0 : Option Addr) (c0_0 : Nat) (l0_0 : List (List Int)) (r : Bool) (w : World) (hr0_0 : Kd.C (Kd.slice 2 (Kd.int .i64)) w A0_0 l0_0.length l0_0) (hc0_0 : l0_0.length ≤ c0_0) (h : impl_ValidBundle.f k l0_0 = some r) :
  Calls Try.prog 54 #[.agg #[.slice A0_0 l0_0.length c0_0]] w fun e w' => e = .returned (.bool r) ∧ Below w.heap.size w w' := by
 have hu44 := Try.underlying44
 have HR0_0 := Aside0.mk hr0_0
 have HC0_0 := Aside0.mk hc0_0
 clear hr0_0 hc0_0
 have HB := Aside0.mk (Below.refl w.heap.size w)
 have H : ((impl_in.f (l0_0.length : Int) 1 9).bind fun t353 => (if t353 = true then (impl_ValidBundle.l0 k (l0_0.length : Int) l0_0 (l0_0.length : Int) 0 l0_0) else (some false))) = some r := h
 clear h
 replace H := Option.bind_eq_some_iff.mp H
 obtain ⟨t353, A20, H⟩ := H
 replace H : (if t353 = true then (impl_ValidBundle.l0 k (l0_0.length : Int) l0_0 (l0_0.length : Int) 0 l0_0) else (some false)) = some r := H
 have A2 := Aside0.mk A20
 clear A20
 by_cases c3 : t353 = true
 ·subst c3
  have H1 : (impl_ValidBundle.l0 k (l0_0.length : Int) l0_0 (l0_0.length : Int) 0 l0_0) = some r := by rw [if_pos rfl] at H; exact H
  clear H
  have H := H1
  clear H1
  have H' := Aside0.mk H
  clear H
  go_enter Try.func54, Try.ntmps54
  go_wp2_with (first | ((with_reducible refine gate_dst (N := 1) rfl ?_); (try (refine gate_guard (by rfl) ?_; dsimp only)); refine box_event ?hg (N := 1) ?hd (cs := #[.slice A0_0 l0_0.length c0_0]) (t := 44) ?hr ?_; (case hd => rfl); (case hg => rfl); (case hr => first | (go_simp; done) | (go_simp; rfl)); intro gb352 hg w4 hbox hb; have n0_ := Aside0.mk (below_step (by repeat (first | (with_reducible first | exact HB.out | apply below_alloc | apply pw_below_drewN | apply below_drew1) | exact HB.out)) hb); have n1_ := Aside0.mk (hbox); have n2_ := Aside0.mk ((by rw [hg]; exact (below_size (by repeat (first | (with_reducible first | exact HB.out | apply below_alloc | apply pw_below_drewN | apply below_drew1) | exact HB.out))) : w.heap.size ≤ gb352)); have n3_ := Aside0.mk ((by rw [hg]; exact (below_size (by repeat (first | (with_reducible first | exact HB.out | apply below_alloc | apply pw_below_drewN | apply below_drew1) | exact HB.out))) : w.heap.size ≤ gb352)); clear HB; have HB := n0_; have BK352 := n1_; have GW352 := n2_; have GE352 := n3_; clear n0_ n1_ n2_ n3_; clear hb hbox hg; have hcz5_0 : w4.cell? ⟨gb352, 0, none⟩ = some (.slice A0_0 l0_0.length c0_0) := (blk_cell BK352.out 0).trans rfl; have hfz5_0 := blk_frozen BK352.out 0) | ((with_reducible refine gate_callee (f := 64) rfl ?_); refine goesL_ (some 12) rfl rfl Try.func64 (by kernel_rfl) rfl #[.int .i64 (l0_0.length : Int), .int .i64 1, .int .i64 9] rfl (by (try simp only [List.map_toArray, List.map_cons, List.map_nil]); first | done | rfl | (simp only [List.length_drop, List.length_take]; rfl)) ?_; (with_reducible refine (impl_in.calls (l0_0.length : Int) 1 9 true _ A2.out).mono ?_); rintro e w' ⟨rfl, ⟨nd, rfl⟩⟩; refine ⟨_, rfl, ?_⟩))
  go_loopg [17] k (fun kq v17 w' => ∃ (x17_1 : Int), v17 = .int .i64 x17_1 ∧ Aside0 (impl_ValidBundle.l0 kq (l0_0.length : Int) l0_0 (l0_0.length : Int) x17_1 l0_0 = some r) ∧ Aside0 (kq ≤ k) ∧ Aside0 (w'.heap[gb352]? = some (.cells #[(.slice A0_0 l0_0.length c0_0)] 44 (0, 0))) ∧ Aside0 (Below w.heap.size w w'))
  case atStart => exact ⟨(0), (by first | rfl | (simp; done) | (simp [*]; done)), H', ⟨Nat.le_refl _⟩, ⟨by (with_reducible repeat first | refine b_N ?_ _ | refine b_D ?_ | refine b_A ?_ _); exact BK352.out⟩, ⟨by repeat (first | (with_reducible first | exact HB.out | apply below_alloc | apply pw_below_drewN | apply below_drew1) | exact HB.out)⟩⟩
  case round =>
   clear H'
   try clear p2
   try clear c3
   try clear c5
   try clear hcz5_0
   try clear hfz5_0
   obtain ⟨x17_1, rfl, HA, HK1, BK352, HB⟩ := hrel
   cases gk with
   | zero => exact absurd HA.out (by simp [impl_ValidBundle.l0])
   | succ k1 =>
    have H := HA.out
    clear HA
    simp only [impl_ValidBundle.l0] at H
    by_cases c6 : x17_1 < (l0_0.length : Int)
    ·rw [if_pos c6] at H
     have c6b0 : decide (x17_1 < (l0_0.length : Int)) = true := decide_eq_true c6
     clear c6
     by_cases c7 : 0 ≤ x17_1
     ·rw [if_pos c7] at H
      have c7b0 : decide (0 ≤ x17_1) = true := decide_eq_true c7
      clear c7
      by_cases c8 : x17_1 < (l0_0.length : Int)
      ·rw [if_pos c8] at H
       have c8b0 : decide (x17_1 < (l0_0.length : Int)) = true := decide_eq_true c8
       clear c8
       have HC9 := Aside0.mk H
       clear H
       have p354 : 0 ≤ (x17_1 : Int) := of_decide_eq_true (by first | (with_reducible assumption) | assumption)
       have q354 : x17_1 < (l0_0.length : Int) := of_decide_eq_true (by first | (with_reducible assumption) | assumption)
       obtain ⟨ad354, A354_0, c354_0, e354, hx354_0, hl354_0, hi354_0⟩ := at_Ls2 HR0_0.out x17_1 p354 q354
       cases e354
       replace hx354_0 := (HB.out.cell (World.block_lt_of_cell? w _ hx354_0)).trans hx354_0
       have HR354_0 := Aside0.mk hi354_0
       have HC354_0 := Aside0.mk hl354_0
       clear hi354_0 hl354_0
       replace p354 := eq_true p354
       replace q354 := eq_true q354
       go_upto_region 7 with (fail)
       go_cut [32] (fun v32 wc => ∃ (kq : Nat) (x32_8 : Bool), v32 = .bool x32_8 ∧ Aside0 (impl_ValidBundle.j1 kq (l0_0.length : Int) x17_1 (rd_Ls2 l0_0 x17_1) l0_0 (l0_0.length : Int) x17_1 x32_8 l0_0 = some r) ∧ Aside0 (kq ≤ k1) ∧ Aside0 (wc.heap[gb352]? = some (.cells #[(.slice (some ad354) l0_0.length c0_0)] 44 (0, 0))) ∧ Aside0 (Below w.heap.size w wc))
       case first =>
        have H := HC9.out
        clear HC9
        by_cases c10 : ((rd_Ls2 l0_0 x17_1).length : Int) = (l0_0.length : Int)
        ·rw [if_pos c10] at H
         have c10b0 : (((rd_Ls2 l0_0 x17_1).length : Int) == (l0_0.length : Int)) = true := beq_iff_eq.mpr c10
         have c10b1 : (((rd_Ls2 l0_0 x17_1).length : Int) != (l0_0.length : Int)) = false := bne_eq_false_iff_eq.mpr c10
         have c10b2 : ((rd_Ls2 l0_0 x17_1).length == l0_0.length) = true := by first | simpa using c10 | (simp at c10 ⊢; omega)
         clear c10
         (first | rw [c10b0] | (simp only [i64_w, i32_w]; rw [c10b0]) | skip)
         by_cases c11 : x17_1 < ((rd_Ls2 l0_0 x17_1).length : Int)
         ·rw [if_pos c11] at H
          have c11b0 : decide (x17_1 < ((rd_Ls2 l0_0 x17_1).length : Int)) = true := decide_eq_true c11
          clear c11
          have H' := Aside0.mk H
          clear H
          have p355 : 0 ≤ (x17_1 : Int) := of_decide_eq_true (by first | (with_reducible assumption) | assumption)
          have q355 : x17_1 < ((rd_Ls2 l0_0 x17_1).length : Int) := of_decide_eq_true (by first | (with_reducible assumption) | assumption)
          obtain ⟨ad355, e355, hx355_0⟩ := Kd.at_int HR354_0.out x17_1 p355 q355
          cases e355
          replace hx355_0 := (HB.out.cell (World.block_lt_of_cell? w _ hx355_0)).trans hx355_0
          replace p355 := eq_true p355
          replace q355 := eq_true q355
          go_wp2
          go_meet
          case rel => exact ⟨_, (((rd (rd_Ls2 l0_0 x17_1) x17_1) != 0)), (by first | rfl | (simp; done) | (simp [*]; done)), H', ⟨by have := HK1.out; first | omega | exact Nat.le_refl _⟩, ⟨by (with_reducible repeat first | refine b_N ?_ _ | refine b_D ?_ | refine b_A ?_ _); exact BK352.out⟩, ⟨by repeat (first | (with_reducible first | exact HB.out | apply below_alloc | apply pw_below_drewN | apply below_drew1) | exact HB.out)⟩⟩
         ·rw [if_neg c11] at H
          exact absurd H (by simp)
        ·rw [if_neg c10] at H
         have c10b0 : (((rd_Ls2 l0_0 x17_1).length : Int) == (l0_0.length : Int)) = false := beq_eq_false_iff_ne.mpr c10
         have c10b1 : (((rd_Ls2 l0_0 x17_1).length : Int) != (l0_0.length : Int)) = true := bne_iff_ne.mpr c10
         have c10b2 : ((rd_Ls2 l0_0 x17_1).length == l0_0.length) = false := by first | simpa using c10 | (simp at c10 ⊢; omega)
         (first | rw [c10b0] | (simp only [i64_w, i32_w]; rw [c10b0]) | skip)
         have H' := Aside0.mk H
         clear H
         go_wp2
         go_meet
         case rel => exact ⟨_, (true), (by first | rfl | (simp; done) | (simp [*]; done)), H', ⟨by have := HK1.out; first | omega | exact Nat.le_refl _⟩, ⟨by (with_reducible repeat first | refine b_N ?_ _ | refine b_D ?_ | refine b_A ?_ _); exact BK352.out⟩, ⟨by repeat (first | (with_reducible first | exact HB.out | apply below_alloc | apply pw_below_drewN | apply below_drew1) | exact HB.out)⟩⟩
       case rest =>
        clear HC9
        try clear c1
        try clear p2
        try clear c3
        try clear p3
        try clear q3
        try clear hx3
        try clear c5
        try clear c6
        try clear c6b0
        try clear c7
        try clear c7b0
        try clear c8
        try clear c8b0
        try clear c10
        try clear c10b0
        try clear c10b1
        try clear c10b2
        try clear c11
        try clear c11b0
        try clear hcz5_0
        try clear hfz5_0
        try clear hx354_0
        try clear hx355_0
        try clear p2
        try clear p354
        try clear p355
        try clear q354
        try clear q355
        obtain ⟨kq, x32_8, rfl, HA, HJ8, BK352, HB⟩ := hcut
        cases kq with
        | zero => exact absurd HA.out (by simp [impl_ValidBundle.j1])
        | succ kj8 =>
         have H := HA.out
         clear HA
         simp only [impl_ValidBundle.j1] at H
         by_cases c12 : x32_8 = true
         ·subst c12
          have H1 : (some false) = some r := by rw [if_pos rfl] at H; exact H
          clear H
          have H := H1
          clear H1
          obtain rfl := Option.some.inj H
          go_wp2
          go_ret
          exact ⟨by first | rfl | (simp [errW_none, errW_some] <;> rfl) | (simp [*, errW_none, errW_some] <;> rfl), by repeat (first | (with_reducible first | exact HB.out | apply below_alloc | apply pw_below_drewN | apply below_drew1) | exact HB.out)⟩
         ·replace c12 := Bool.eq_false_iff.mpr c12
          subst c12
          have H1 : (impl_ValidBundle.l1 kj8 (l0_0.length : Int) x17_1 l0_0 (l0_0.length : Int) x17_1 (rd_Ls2 l0_0 x17_1) ((rd_Ls2 l0_0 x17_1).length : Int) 0 l0_0) = some r := by rw [if_neg (show ¬ (false = true) by decide)] at H; exact H
          clear H
          have H := H1
          clear H1
          have H' := Aside0.mk H
          clear H
          go_wp2
          go_loopg [35] kj8 (fun kq v35 w' => ∃ (x35_3 : Int), v35 = .int .i64 x35_3 ∧ Aside0 (impl_ValidBundle.l1 kq (l0_0.length : Int) x17_1 l0_0 (l0_0.length : Int) x17_1 (rd_Ls2 l0_0 x17_1) ((rd_Ls2 l0_0 x17_1).length : Int) x35_3 l0_0 = some r) ∧ Aside0 (kq ≤ kj8) ∧ Aside0 (w'.heap[gb352]? = some (.cells #[(.slice (some ad354) l0_0.length c0_0)] 44 (0, 0))) ∧ Aside0 (Below w.heap.size w w'))
          case atStart => exact ⟨(0), (by first | rfl | (simp; done) | (simp [*]; done)), H', ⟨Nat.le_refl _⟩, ⟨by (with_reducible repeat first | refine b_N ?_ _ | refine b_D ?_ | refine b_A ?_ _); exact BK352.out⟩, ⟨by repeat (first | (with_reducible first | exact HB.out | apply below_alloc | apply pw_below_drewN | apply below_drew1) | exact HB.out)⟩⟩
          case round =>
           clear H'
           try clear c1
           try clear p2
           try clear c3
           try clear p3
           try clear q3
           try clear hx3
           try clear c5
           try clear c6
           try clear c6b0
           try clear c7
           try clear c7b0
           try clear c8
           try clear c8b0
           try clear c10
           try clear c10b0
           try clear c10b1
           try clear c10b2
           try clear c11
           try clear c11b0
           try clear c12
           try clear hcz5_0
           try clear hfz5_0
           try clear hx354_0
           try clear hx355_0
           try clear p2
           try clear p3
           try clear p354
           try clear p355
           try clear q3
           try clear q354
           try clear q355
           obtain ⟨x35_3, rfl, HA, HK3, BK352, HB⟩ := hrel
           cases gk with
           | zero => exact absurd HA.out (by simp [impl_ValidBundle.l1])
           | succ k3 =>
            have H := HA.out
            clear HA
            simp only [impl_ValidBundle.l1] at H
            by_cases c13 : x35_3 < ((rd_Ls2 l0_0 x17_1).length : Int)
            ·rw [if_pos c13] at H
             have c13b0 : decide (x35_3 < ((rd_Ls2 l0_0 x17_1).length : Int)) = true := decide_eq_true c13
             clear c13
             by_cases c14 : 0 ≤ x35_3
             ·rw [if_pos c14] at H
              have c14b0 : decide (0 ≤ x35_3) = true := decide_eq_true c14
              clear c14
              by_cases c15 : x35_3 < ((rd_Ls2 l0_0 x17_1).length : Int)
              ·rw [if_pos c15] at H
               have c15b0 : decide (x35_3 < ((rd_Ls2 l0_0 x17_1).length : Int)) = true := decide_eq_true c15
               clear c15
               have HC16 := Aside0.mk H
               clear H
               have p356 : 0 ≤ (x35_3 : Int) := of_decide_eq_true (by first | (with_reducible assumption) | assumption)
               have q356 : x35_3 < ((rd_Ls2 l0_0 x17_1).length : Int) := of_decide_eq_true (by first | (with_reducible assumption) | assumption)
               obtain ⟨ad356, e356, hx356_0⟩ := Kd.at_int HR354_0.out x35_3 p356 q356
               cases e356
               replace hx356_0 := (HB.out.cell (World.block_lt_of_cell? w _ hx356_0)).trans hx356_0
               replace p356 := eq_true p356
               replace q356 := eq_true q356
               go_upto_region 12 with (fail)
               go_cut [64] (fun v64 wc => ∃ (kq : Nat) (x64_15 : Bool), v64 = .bool x64_15 ∧ Aside0 (impl_ValidBundle.j3 kq (l0_0.length : Int) x17_1 l0_0 (l0_0.length : Int) x17_1 (rd_Ls2 l0_0 x17_1) ((rd_Ls2 l0_0 x17_1).length : Int) x35_3 x64_15 l0_0 = some r) ∧ Aside0 (kq ≤ k3) ∧ Aside0 (wc.heap[gb352]? = some (.cells #[(.slice (some ad354) l0_0.length c0_0)] 44 (0, 0))) ∧ Aside0 (Below w.heap.size w wc))
               case first =>
                have H := HC16.out
                clear HC16
                replace H := Option.bind_eq_some_iff.mp H
                obtain ⟨t357, A170, H⟩ := H
                replace H : (if t357 = true then (if x35_3 < (l0_0.length : Int) then (if ((rd_Ls2 l0_0 x35_3).length : Int) = (l0_0.length : Int) then (if 0 ≤ x17_1 then (if x17_1 < ((rd_Ls2 l0_0 x35_3).length : Int) then (impl_ValidBundle.j3 k3 (l0_0.length : Int) x17_1 l0_0 (l0_0.length : Int) x17_1 (rd_Ls2 l0_0 x17_1) ((rd_Ls2 l0_0 x17_1).length : Int) x35_3 ((rd (rd_Ls2 l0_0 x35_3) x17_1) != (rd (rd_Ls2 l0_0 x17_1) x35_3)) l0_0) else (none)) else (none)) else (impl_ValidBundle.j3 k3 (l0_0.length : Int) x17_1 l0_0 (l0_0.length : Int) x17_1 (rd_Ls2 l0_0 x17_1) ((rd_Ls2 l0_0 x17_1).length : Int) x35_3 true l0_0)) else (none)) else (impl_ValidBundle.j3 k3 (l0_0.length : Int) x17_1 l0_0 (l0_0.length : Int) x17_1 (rd_Ls2 l0_0 x17_1) ((rd_Ls2 l0_0 x17_1).length : Int) x35_3 true l0_0)) = some r := H
                have A17 := Aside0.mk A170
                clear A170
                by_cases c18 : t357 = true
                ·subst c18
                 have H1 : (if x35_3 < (l0_0.length : Int) then (if ((rd_Ls2 l0_0 x35_3).length : Int) = (l0_0.length : Int) then (if 0 ≤ x17_1 then (if x17_1 < ((rd_Ls2 l0_0 x35_3).length : Int) then (impl_ValidBundle.j3 k3 (l0_0.length : Int) x17_1 l0_0 (l0_0.length : Int) x17_1 (rd_Ls2 l0_0 x17_1) ((rd_Ls2 l0_0 x17_1).length : Int) x35_3 ((rd (rd_Ls2 l0_0 x35_3) x17_1) != (rd (rd_Ls2 l0_0 x17_1) x35_3)) l0_0) else (none)) else (none)) else (impl_ValidBundle.j3 k3 (l0_0.length : Int) x17_1 l0_0 (l0_0.length : Int) x17_1 (rd_Ls2 l0_0 x17_1) ((rd_Ls2 l0_0 x17_1).length : Int) x35_3 true l0_0)) else (none)) = some r := by rw [if_pos rfl] at H; exact H
                 clear H
                 have H := H1
                 clear H1
                 by_cases c19 : x35_3 < (l0_0.length : Int)
                 ·rw [if_pos c19] at H
                  have c19b0 : decide (x35_3 < (l0_0.length : Int)) = true := decide_eq_true c19
                  clear c19
                  (first | rw [c19b0] | (simp only [i64_w, i32_w]; rw [c19b0]) | skip)
                  by_cases c20 : ((rd_Ls2 l0_0 x35_3).length : Int) = (l0_0.length : Int)
                  ·rw [if_pos c20] at H
                   have c20b0 : (((rd_Ls2 l0_0 x35_3).length : Int) == (l0_0.length : Int)) = true := beq_iff_eq.mpr c20
                   have c20b1 : (((rd_Ls2 l0_0 x35_3).length : Int) != (l0_0.length : Int)) = false := bne_eq_false_iff_eq.mpr c20
                   have c20b2 : ((rd_Ls2 l0_0 x35_3).length == l0_0.length) = true := by first | simpa using c20 | (simp at c20 ⊢; omega)
                   clear c20
                   by_cases c21 : 0 ≤ x17_1
                   ·rw [if_pos c21] at H
                    have c21b0 : decide (0 ≤ x17_1) = true := decide_eq_true c21
                    clear c21
                    by_cases c22 : x17_1 < ((rd_Ls2 l0_0 x35_3).length : Int)
                    ·rw [if_pos c22] at H
                     have c22b0 : decide (x17_1 < ((rd_Ls2 l0_0 x35_3).length : Int)) = true := decide_eq_true c22
                     clear c22
                     have H' := Aside0.mk H
                     clear H
                     go_wp2_with (first | ((with_reducible refine gate_callee (f := 64) rfl ?_); refine goesL_ (some 41) rfl rfl Try.func64 (by kernel_rfl) rfl #[.int .i64 (rd (rd_Ls2 l0_0 x17_1) x35_3), .int .i64 0, .int .i64 1000] rfl (by (try simp only [List.map_toArray, List.map_cons, List.map_nil]); first | done | rfl | (simp only [List.length_drop, List.length_take]; rfl)) ?_; (with_reducible refine (impl_in.calls (rd (rd_Ls2 l0_0 x17_1) x35_3) 0 1000 true _ A17.out).mono ?_); rintro e w' ⟨rfl, ⟨nd, rfl⟩⟩; refine ⟨_, rfl, ?_⟩; have hcz23_0 : wr.cell? ⟨gb352, 0, none⟩ = some (.slice (some ad354) l0_0.length c0_0) := (blk_cell BK352.out 0).trans rfl; have hfz23_0 := blk_frozen BK352.out 0; have p358 : 0 ≤ (x35_3 : Int) := of_decide_eq_true (by first | (with_reducible assumption) | assumption); have q358 : x35_3 < (l0_0.length : Int) := of_decide_eq_true (by first | (with_reducible assumption) | assumption); obtain ⟨ad358, A358_0, c358_0, e358, hx358_0, hl358_0, hi358_0⟩ := at_Ls2 HR0_0.out x35_3 p358 q358; obtain rfl : ad354 = ad358 := (by injection e358); replace hx358_0 := (HB.out.cell (World.block_lt_of_cell? w _ hx358_0)).trans hx358_0; have HR358_0 := Aside0.mk hi358_0; have HC358_0 := Aside0.mk hl358_0; clear hi358_0 hl358_0; replace p358 := eq_true p358; replace q358 := eq_true q358; have p359 : 0 ≤ (x35_3 : Int) := of_decide_eq_true (by first | (with_reducible assumption) | assumption); have q359 : x35_3 < (l0_0.length : Int) := of_decide_eq_true (by first | (with_reducible assumption) | assumption); obtain ⟨ad359, A359_0, c359_0, e359, hx359_0, hl359_0, hi359_0⟩ := at_Ls2 HR0_0.out x35_3 p359 q359; obtain rfl : ad354 = ad359 := (by injection e359); replace hx359_0 := (HB.out.cell (World.block_lt_of_cell? w _ hx359_0)).trans hx359_0; have HR359_0 := Aside0.mk hi359_0; have HC359_0 := Aside0.mk hl359_0; clear hi359_0 hl359_0; replace p359 := eq_true p359; replace q359 := eq_true q359; have ea_ := Option.some.inj (hx358_0.symm.trans hx359_0); injection ea_ with ea_ en_ ec_; subst ea_; subst ec_; clear en_; have p360 : 0 ≤ (x17_1 : Int) := of_decide_eq_true (by first | (with_reducible assumption) | assumption); have q360 : x17_1 < ((rd_Ls2 l0_0 x35_3).length : Int) := of_decide_eq_true (by first | (with_reducible assumption) | assumption); obtain ⟨ad360, e360, hx360_0⟩ := Kd.at_int HR359_0.out x17_1 p360 q360; cases e360; replace hx360_0 := (HB.out.cell (World.block_lt_of_cell? w _ hx360_0)).trans hx360_0; replace p360 := eq_true p360; replace q360 := eq_true q360))
                     go_meet
                     case rel => exact ⟨_, (((rd (rd_Ls2 l0_0 x35_3) x17_1) != (rd (rd_Ls2 l0_0 x17_1) x35_3))), (by first | rfl | (simp; done) | (simp [*]; done)), H', ⟨by have := HK1.out; have := HJ8.out; have := HK3.out; first | omega | exact Nat.le_refl _⟩, ⟨by (with_reducible repeat first | refine b_N ?_ _ | refine b_D ?_ | refine b_A ?_ _); exact BK352.out⟩, ⟨by repeat (first | (with_reducible first | exact HB.out | apply below_alloc | apply pw_below_drewN | apply below_drew1) | exact HB.out)⟩⟩
                    ·rw [if_neg c22] at H
                     exact absurd H (by simp)
                   ·rw [if_neg c21] at H
                    exact absurd H (by simp)
                  ·rw [if_neg c20] at H
                   have c20b0 : (((rd_Ls2 l0_0 x35_3).length : Int) == (l0_0.length : Int)) = false := beq_eq_false_iff_ne.mpr c20
                   have c20b1 : (((rd_Ls2 l0_0 x35_3).length : Int) != (l0_0.length : Int)) = true := bne_iff_ne.mpr c20
                   have c20b2 : ((rd_Ls2 l0_0 x35_3).length == l0_0.length) = false := by first | simpa using c20 | (simp at c20 ⊢; omega)
                   have H' := Aside0.mk H
                   clear H
                   go_wp2_with (first | ((with_reducible refine gate_callee (f := 64) rfl ?_); refine goesL_ (some 41) rfl rfl Try.func64 (by kernel_rfl) rfl #[.int .i64 (rd (rd_Ls2 l0_0 x17_1) x35_3), .int .i64 0, .int .i64 1000] rfl (by (try simp only [List.map_toArray, List.map_cons, List.map_nil]); first | done | rfl | (simp only [List.length_drop, List.length_take]; rfl)) ?_; (with_reducible refine (impl_in.calls (rd (rd_Ls2 l0_0 x17_1) x35_3) 0 1000 true _ A17.out).mono ?_); rintro e w' ⟨rfl, ⟨nd, rfl⟩⟩; refine ⟨_, rfl, ?_⟩; have hcz24_0 : wr.cell? ⟨gb352, 0, none⟩ = some (.slice (some ad354) l0_0.length c0_0) := (blk_cell BK352.out 0).trans rfl; have hfz24_0 := blk_frozen BK352.out 0; have p358 : 0 ≤ (x35_3 : Int) := of_decide_eq_true (by first | (with_reducible assumption) | assumption); have q358 : x35_3 < (l0_0.length : Int) := of_decide_eq_true (by first | (with_reducible assumption) | assumption); obtain ⟨ad358, A358_0, c358_0, e358, hx358_0, hl358_0, hi358_0⟩ := at_Ls2 HR0_0.out x35_3 p358 q358; obtain rfl : ad354 = ad358 := (by injection e358); replace hx358_0 := (HB.out.cell (World.block_lt_of_cell? w _ hx358_0)).trans hx358_0; have HR358_0 := Aside0.mk hi358_0; have HC358_0 := Aside0.mk hl358_0; clear hi358_0 hl358_0; replace p358 := eq_true p358; replace q358 := eq_true q358))
                   go_meet
                   case rel => exact ⟨_, (true), (by first | rfl | (simp; done) | (simp [*]; done)), H', ⟨by have := HK1.out; have := HJ8.out; have := HK3.out; first | omega | exact Nat.le_refl _⟩, ⟨by (with_reducible repeat first | refine b_N ?_ _ | refine b_D ?_ | refine b_A ?_ _); exact BK352.out⟩, ⟨by repeat (first | (with_reducible first | exact HB.out | apply below_alloc | apply pw_below_drewN | apply below_drew1) | exact HB.out)⟩⟩
                 ·rw [if_neg c19] at H
                  exact absurd H (by simp)
                ·replace c18 := Bool.eq_false_iff.mpr c18
                 subst c18
                 have H1 : (impl_ValidBundle.j3 k3 (l0_0.length : Int) x17_1 l0_0 (l0_0.length : Int) x17_1 (rd_Ls2 l0_0 x17_1) ((rd_Ls2 l0_0 x17_1).length : Int) x35_3 true l0_0) = some r := by rw [if_neg (show ¬ (false = true) by decide)] at H; exact H
                 clear H
                 have H := H1
                 clear H1
                 have H' := Aside0.mk H
                 clear H
                 go_wp2_with (first | ((with_reducible refine gate_callee (f := 64) rfl ?_); refine goesL_ (some 41) rfl rfl Try.func64 (by kernel_rfl) rfl #[.int .i64 (rd (rd_Ls2 l0_0 x17_1) x35_3), .int .i64 0, .int .i64 1000] rfl (by (try simp only [List.map_toArray, List.map_cons, List.map_nil]); first | done | rfl | (simp only [List.length_drop, List.length_take]; rfl)) ?_; (with_reducible refine (impl_in.calls (rd (rd_Ls2 l0_0 x17_1) x35_3) 0 1000 false _ A17.out).mono ?_); rintro e w' ⟨rfl, ⟨nd, rfl⟩⟩; refine ⟨_, rfl, ?_⟩))
                 go_meet
                 case rel => exact ⟨_, (true), (by first | rfl | (simp; done) | (simp [*]; done)), H', ⟨by have := HK1.out; have := HJ8.out; have := HK3.out; first | omega | exact Nat.le_refl _⟩, ⟨by (with_reducible repeat first | refine b_N ?_ _ | refine b_D ?_ | refine b_A ?_ _); exact BK352.out⟩, ⟨by repeat (first | (with_reducible first | exact HB.out | apply below_alloc | apply pw_below_drewN | apply below_drew1) | exact HB.out)⟩⟩
               case rest =>
                clear HC16
                try clear c1
                try clear c2
                try clear p2
                try clear c3
                try clear p3
                try clear q3
                try clear hx3
                try clear c5
                try clear c6
                try clear c6b0
                try clear c7
                try clear c7b0
                try clear c8
                try clear c8b0
                try clear c10
                try clear c10b0
                try clear c10b1
                try clear c10b2
                try clear c11
                try clear c11b0
                try clear c12
                try clear c13
                try clear c13b0
                try clear c14
                try clear c14b0
                try clear c15
                try clear c15b0
                try clear c18
                try clear c19
                try clear c19b0
                try clear c20
                try clear c20b0
                try clear c20b1
                try clear c20b2
                try clear c21
                try clear c21b0
                try clear c22
                try clear c22b0
                try clear hcz23_0
                try clear hcz24_0
                try clear hcz5_0
                try clear hfz23_0
                try clear hfz24_0
                try clear hfz5_0
                try clear hx354_0
                try clear hx355_0
                try clear hx356_0
                try clear hx358_0
                try clear hx359_0
                try clear hx360_0
                try clear p2
                try clear p3
                try clear p354
                try clear p355
                try clear p356
                try clear p358
                try clear p359
                try clear p360
                try clear q3
                try clear q354
                try clear q355
                try clear q356
                try clear q358
                try clear q359
                try clear q360
                obtain ⟨kq, x64_15, rfl, HA, HJ15, BK352, HB⟩ := hcut
                cases kq with
                | zero => exact absurd HA.out (by simp [impl_ValidBundle.j3])
                | succ kj15 =>
                 have H := HA.out
                 clear HA
                 simp only [impl_ValidBundle.j3] at H
                 by_cases c25 : x64_15 = true
                 ·subst c25
                  have H1 : (some false) = some r := by rw [if_pos rfl] at H; exact H
                  clear H
                  have H := H1
                  clear H1
                  obtain rfl := Option.some.inj H
                  go_wp2
                  go_ret
                  exact ⟨by first | rfl | (simp [errW_none, errW_some] <;> rfl) | (simp [*, errW_none, errW_some] <;> rfl), by repeat (first | (with_reducible first | exact HB.out | apply below_alloc | apply pw_below_drewN | apply below_drew1) | exact HB.out)⟩
                 ·replace c25 := Bool.eq_false_iff.mpr c25
                  subst c25
                  have H1 : (impl_ValidBundle.l1 kj15 (l0_0.length : Int) x17_1 l0_0 (l0_0.length : Int) x17_1 (rd_Ls2 l0_0 x17_1) ((rd_Ls2 l0_0 x17_1).length : Int) (wrap64 (x35_3 + 1)) l0_0) = some r := by rw [if_neg (show ¬ (false = true) by decide)] at H; exact H
                  clear H
                  have H := H1
                  clear H1
                  have H' := Aside0.mk H
                  clear H
                  go_wp2
                  go_roundg kj15
                  case measure => have := HK1.out; have := HJ8.out; have := HK3.out; have := HJ15.out; omega
                  case rel => exact ⟨(wrap64 (x35_3 + 1)), (by first | rfl | (simp; done) | (simp [*]; done)), H', ⟨by have := HK1.out; have := HJ8.out; have := HK3.out; have := HJ15.out; omega⟩, ⟨by (with_reducible repeat first | refine b_N ?_ _ | refine b_D ?_ | refine b_A ?_ _); exact BK352.out⟩, ⟨by repeat (first | (with_reducible first | exact HB.out | apply below_alloc | apply pw_below_drewN | apply below_drew1) | exact HB.out)⟩⟩
              ·rw [if_neg c15] at H
               exact absurd H (by simp)
             ·rw [if_neg c14] at H
              exact absurd H (by simp)
            ·rw [if_neg c13] at H
             have c13b0 : decide (x35_3 < ((rd_Ls2 l0_0 x17_1).length : Int)) = false := decide_eq_false c13
             clear c13
             have H' := Aside0.mk H
             clear H
             go_wp2
             go_roundg k3
             case measure => have := HK1.out; have := HJ8.out; have := HK3.out; omega
             case rel => exact ⟨(wrap64 (x17_1 + 1)), (by first | rfl | (simp; done) | (simp [*]; done)), H', ⟨by have := HK1.out; have := HJ8.out; have := HK3.out; omega⟩, ⟨by (with_reducible repeat first | refine b_N ?_ _ | refine b_D ?_ | refine b_A ?_ _); exact BK352.out⟩, ⟨by repeat (first | (with_reducible first | exact HB.out | apply below_alloc | apply pw_below_drewN | apply below_drew1) | exact HB.out)⟩⟩
      ·rw [if_neg c8] at H
       exact absurd H (by simp)
     ·rw [if_neg c7] at H
      exact absurd H (by simp)
    ·rw [if_neg c6] at H
     have c6b0 : decide (x17_1 < (l0_0.length : Int)) = false := decide_eq_false c6
     clear c6
     obtain rfl := Option.some.inj H
     go_wp2
     go_ret
     exact ⟨by first | rfl | (simp [errW_none, errW_some] <;> rfl) | (simp [*, errW_none, errW_some] <;> rfl), by repeat (first | (with_reducible first | exact HB.out | apply below_alloc | apply pw_below_drewN | apply below_drew1) | exact HB.out)⟩
 ·replace c3 := Bool.eq_false_iff.mpr c3
  subst c3
  have H1 : (some false) = some r := by rw [if_neg (show ¬ (false = true) by decide)] at H; exact H
  clear H
  have H := H1
  clear H1
  obtain rfl := Option.some.inj H
  go_enter Try.func54, Try.ntmps54
  go_wp2_with (first | ((with_reducible refine gate_dst (N := 1) rfl ?_); (try (refine gate_guard (by rfl) ?_; dsimp only)); refine box_event ?hg (N := 1) ?hd (cs := #[.slice A0_0 l0_0.length c0_0]) (t := 44) ?hr ?_; (case hd => rfl); (case hg => rfl); (case hr => first | (go_simp; done) | (go_simp; rfl)); intro gb352 hg w26 hbox hb; have n0_ := Aside0.mk (below_step (by repeat (first | (with_reducible first | exact HB.out | apply below_alloc | apply pw_below_drewN | apply below_drew1) | exact HB.out)) hb); have n1_ := Aside0.mk (hbox); have n2_ := Aside0.mk ((by rw [hg]; exact (below_size (by repeat (first | (with_reducible first | exact HB.out | apply below_alloc | apply pw_below_drewN | apply below_drew1) | exact HB.out))) : w.heap.size ≤ gb352)); have n3_ := Aside0.mk ((by rw [hg]; exact (below_size (by repeat (first | (with_reducible first | exact HB.out | apply below_alloc | apply pw_below_drewN | apply below_drew1) | exact HB.out))) : w.heap.size ≤ gb352)); clear HB; have HB := n0_; have BK352 := n1_; have GW352 := n2_; have GE352 := n3_; clear n0_ n1_ n2_ n3_; clear hb hbox hg; have hcz27_0 : w26.cell? ⟨gb352, 0, none⟩ = some (.slice A0_0 l0_0.length c0_0) := (blk_cell BK352.out 0).trans rfl; have hfz27_0 := blk_frozen BK352.out 0) | ((with_reducible refine gate_callee (f := 64) rfl ?_); refine goesL_ (some 12) rfl rfl Try.func64 (by kernel_rfl) rfl #[.int .i64 (l0_0.length : Int), .int .i64 1, .int .i64 9] rfl (by (try simp only [List.map_toArray, List.map_cons, List.map_nil]); first | done | rfl | (simp only [List.length_drop, List.length_take]; rfl)) ?_; (with_reducible refine (impl_in.calls (l0_0.length : Int) 1 9 false _ A2.out).mono ?_); rintro e w' ⟨rfl, ⟨nd, rfl⟩⟩; refine ⟨_, rfl, ?_⟩))
  go_ret
  exact ⟨by first | rfl | (simp [errW_none, errW_some] <;> rfl) | (simp [*, errW_none, errW_some] <;> rfl), by repeat (first | (with_reducible first | exact HB.out | apply below_alloc | apply pw_below_drewN | apply below_drew1) | exact HB.out)⟩
end Go.Proofs.Ytaapbnhggfmlpaa.P
end
section
set_option linter.unusedVariables false
namespace Go.Proofs.Ytaapbnhggfmlpaa.B
open Go.RowKit Go.Proofs.Ytaapbnhggfmlpaa.P Go.Proofs.YtaapbnhggfmlpaaW.PrintWords Go.Proofs.YtaapbnhggfmlpaaW.PrintLast
theorem w64 {x : Int} (h : -9223372036854775808 ≤ x ∧ x ≤ 9223372036854775807) : wrap64 x = x := by unfold wrap64; omega
theorem w64s {i n : Nat} (h : i < n) (hn : n ≤ 9223372036854775807) : wrap64 ((i : Int) + 1) = ((i + 1 : Nat) : Int) := by rw [w64 (by omega)]; push_cast; rfl
theorem rd_nat (xs : List Int) (i : Nat) : rd xs (i : Int) = xs.getD i 0 := rfl
theorem rdL_nat (xs : List (List Int)) (i : Nat) : rd_Ls2 xs (i : Int) = xs.getD i [] := rfl
theorem getD_mem {α : Type} {l : List α} {i : Nat} {d : α} (h : i < l.length) : l.getD i d ∈ l := by
  rw [List.getD_eq_getElem?_getD, List.getElem?_eq_getElem h]; exact List.getElem_mem h
/-- The weight of two wires. -/
def Wt (l : List (List Int)) (i j : Nat) : Int := (l.getD i []).getD j 0
structure Valid (l : List (List Int)) : Prop where
  pos : 1 ≤ l.length
  le : l.length ≤ 9
  row : ∀ i, i < l.length → (l.getD i []).length = l.length
  bound : ∀ i j, i < l.length → j < l.length → 0 ≤ Wt l i j ∧ Wt l i j ≤ 1000
  sym : ∀ i j, i < l.length → j < l.length → Wt l i j = Wt l j i
  zero : ∀ i, i < l.length → Wt l i i = 0
theorem in_impl (a b c : Int) : impl_in.f a b c = some (decide (a ≥ b ∧ a ≤ c)) := by
  unfold impl_in.f
  by_cases h : a ≥ b
  · rw [if_pos h]; simp [h]
  · rw [if_neg h]; simp [h]
section
variable (l : List (List Int)) (n9 : l.length ≤ 9)
include n9
def RowOk (i : Nat) : Prop := (l.getD i []).length = l.length ∧ Wt l i i = 0 ∧ ∀ j, j < l.length → 0 ≤ Wt l i j ∧ Wt l i j ≤ 1000 ∧ (l.getD j []).length = l.length ∧ Wt l j i = Wt l i j
theorem vb1 (i : Nat) (hi : i < l.length) (hrow : (l.getD i []).length = l.length) (F : Nat → Prop) (rest : ∀ k, 226 ≤ k + 24 * i → ∃ b, impl_ValidBundle.l0 k l.length l l.length ((i + 1 : Nat) : Int) l = some b ∧ (b = true ↔ F i)) :
    ∀ (d k j : Nat), l.length - j = d → 2 * d + 227 ≤ k + 24 * i → j ≤ l.length → ∃ b, impl_ValidBundle.l1 k l.length i l l.length i (l.getD i []) ((l.getD i []).length) j l = some b ∧ (b = true ↔ (∀ j', j ≤ j' → j' < l.length → 0 ≤ Wt l i j' ∧ Wt l i j' ≤ 1000 ∧ (l.getD j' []).length = l.length ∧ Wt l j' i = Wt l i j') ∧ F i) := by
  intro d
  induction d with
  | zero =>
    intro k j hd hk hj
    obtain ⟨k, rfl⟩ : ∃ m, k = m + 1 := ⟨k - 1, by omega⟩
    simp only [impl_ValidBundle.l1]
    rw [if_neg (by omega), w64s hi (by omega)]
    obtain ⟨b, hb, hb'⟩ := rest k (by omega)
    exact ⟨b, hb, hb'.trans ⟨fun h => ⟨fun j' h1 h2 => by omega, h⟩, fun h => h.2⟩⟩
  | succ d ih =>
    intro k j hd hk hj
    obtain ⟨k, rfl⟩ : ∃ m, k = m + 1 := ⟨k - 1, by omega⟩
    have hjl : j < l.length := by omega
    obtain ⟨k, rfl⟩ : ∃ m, k = m + 1 := ⟨k - 1, by omega⟩
    simp only [impl_ValidBundle.l1, impl_ValidBundle.j3]
    rw [if_pos (by omega), if_pos (by omega), if_pos (by omega), rd_nat, in_impl]
    simp only [Option.bind_some]
    rw [rdL_nat, rd_nat, show (l.getD i []).getD j 0 = Wt l i j from rfl, show (l.getD j []).getD i 0 = Wt l j i from rfl]
    obtain ⟨b, hb, hb'⟩ := ih k (j + 1) (by omega) (by omega) (by omega)
    have split : (∀ j', j ≤ j' → j' < l.length → 0 ≤ Wt l i j' ∧ Wt l i j' ≤ 1000 ∧ (l.getD j' []).length = l.length ∧ Wt l j' i = Wt l i j') ↔ (0 ≤ Wt l i j ∧ Wt l i j ≤ 1000 ∧ (l.getD j []).length = l.length ∧ Wt l j i = Wt l i j) ∧ ∀ j', j + 1 ≤ j' → j' < l.length → 0 ≤ Wt l i j' ∧ Wt l i j' ≤ 1000 ∧ (l.getD j' []).length = l.length ∧ Wt l j' i = Wt l i j' :=
      ⟨fun h => ⟨h j (Nat.le_refl _) hjl, fun j' h1 h2 => h j' (by omega) h2⟩, fun h j' h1 h2 => by
        by_cases e : j' = j
        · subst e; exact h.1
        · exact h.2 j' (by omega) h2⟩
    rw [split]
    by_cases c1 : Wt l i j ≥ 0 ∧ Wt l i j ≤ 1000
    · rw [decide_eq_true c1, if_pos rfl, if_pos (by omega)]
      by_cases c2 : (l.getD j []).length = l.length
      · rw [if_pos (by omega), if_pos (by omega), if_pos (by omega)]
        by_cases c3 : Wt l j i = Wt l i j
        · rw [if_neg (by simp [c3]), w64s hjl (by omega)]
          exact ⟨b, hb, hb'.trans ⟨fun h => ⟨⟨⟨c1.1, c1.2, c2, c3⟩, h.1⟩, h.2⟩, fun h => ⟨h.1.2, h.2⟩⟩⟩
        · rw [if_pos (by simp [c3])]
          exact ⟨false, rfl, by constructor; (intro h; cases h); (intro h; exact absurd h.1.1.2.2.2 c3)⟩
      · rw [if_neg (by omega), if_pos trivial]
        exact ⟨false, rfl, by constructor; (intro h; cases h); (intro h; exact absurd h.1.1.2.2.1 c2)⟩
    · rw [decide_eq_false c1, if_neg (by decide), if_pos trivial]
      exact ⟨false, rfl, by constructor; (intro h; cases h); (intro h; exact absurd ⟨h.1.1.1, h.1.1.2.1⟩ c1)⟩
theorem vb0 : ∀ (d i k : Nat), l.length - i = d → 250 ≤ k + 24 * i → i ≤ l.length →
    ∃ b, impl_ValidBundle.l0 k l.length l l.length i l = some b ∧ (b = true ↔ ∀ i', i ≤ i' → i' < l.length → RowOk l i') := by
  intro d
  induction d with
  | zero =>
    intro i k hd hk hi
    obtain ⟨k, rfl⟩ : ∃ m, k = m + 1 := ⟨k - 1, by omega⟩
    simp only [impl_ValidBundle.l0]
    rw [if_neg (by omega)]
    exact ⟨true, rfl, by simp; intro i' h1 h2; omega⟩
  | succ d ih =>
    intro i k hd hk hi
    obtain ⟨k, rfl⟩ : ∃ m, k = m + 1 := ⟨k - 1, by omega⟩
    obtain ⟨k, rfl⟩ : ∃ m, k = m + 1 := ⟨k - 1, by omega⟩
    have hil : i < l.length := by omega
    have split : (∀ i', i ≤ i' → i' < l.length → RowOk l i') ↔ RowOk l i ∧ ∀ i', i + 1 ≤ i' → i' < l.length → RowOk l i' :=
      ⟨fun h => ⟨h i (Nat.le_refl _) hil, fun j' h1 h2 => h j' (by omega) h2⟩, fun h j' h1 h2 => by
        by_cases e : j' = i
        · subst e; exact h.1
        · exact h.2 j' (by omega) h2⟩
    rw [split]
    simp only [impl_ValidBundle.l0, impl_ValidBundle.j1]
    rw [if_pos (by omega), if_pos (by omega), if_pos (by omega), rdL_nat]
    by_cases c : (l.getD i []).length = l.length
    · rw [if_pos (by omega), if_pos (by omega), rd_nat, show (l.getD i []).getD i 0 = Wt l i i from rfl]
      by_cases c0 : Wt l i i = 0
      · rw [if_neg (by simp [c0])]
        obtain ⟨b, hb, hb'⟩ := vb1 l n9 i hil c (fun i => ∀ i', i + 1 ≤ i' → i' < l.length → RowOk l i') (fun k hk => ih (i + 1) k (by omega) (by omega) (by omega)) l.length k 0 rfl (by omega) (by omega)
        refine ⟨b, hb, hb'.trans ⟨fun h => ⟨⟨c, c0, fun j hj => h.1 j (by omega) hj⟩, h.2⟩, fun h => ⟨fun j' _ h2 => h.1.2.2 j' h2, h.2⟩⟩⟩
      · rw [if_pos (by simp [c0])]
        exact ⟨false, rfl, by constructor; (intro h; cases h); (intro h; exact absurd h.1.2.1 c0)⟩
    · rw [if_neg (by omega), if_pos trivial]
      exact ⟨false, rfl, by constructor; (intro h; cases h); (intro h; exact absurd h.1.1 c)⟩
end
theorem valid_iff' (l : List (List Int)) (n1 : 1 ≤ l.length) (n9 : l.length ≤ 9) : Valid l ↔ ∀ i, i < l.length → RowOk l i :=
  ⟨fun h i hi => ⟨h.row i hi, h.zero i hi, fun j hj => ⟨(h.bound i j hi hj).1, (h.bound i j hi hj).2, h.row j hj, h.sym j i hj hi⟩⟩,
   fun h => ⟨n1, n9, fun i hi => (h i hi).1, fun i j hi hj => ⟨((h i hi).2.2 j hj).1, ((h i hi).2.2 j hj).2.1⟩, fun i j hi hj => ((h i hi).2.2 j hj).2.2.2.symm, fun i hi => (h i hi).2.1⟩⟩
open Classical in
theorem validBundle (l : List (List Int)) (k : Nat) (hk : 250 ≤ k) : impl_ValidBundle.f k l = some (decide (Valid l)) := by
  unfold impl_ValidBundle.f
  rw [in_impl]
  simp only [Option.bind_some]
  by_cases c : (l.length : Int) ≥ 1 ∧ (l.length : Int) ≤ 9
  · rw [decide_eq_true c, if_pos rfl, show (0 : Int) = ((0 : Nat) : Int) from rfl]
    obtain ⟨b, hb, hb'⟩ := vb0 l (by omega) l.length 0 k rfl (by omega) (by omega)
    rw [hb]
    have hb'' : b = true ↔ Valid l := hb'.trans ((valid_iff' l (by omega) (by omega)).trans ⟨fun h i _ hi => h i hi, fun h i hi => h i (by omega) hi⟩).symm
    congr 1
    rw [Bool.eq_iff_iff, hb'']; simp
  · rw [decide_eq_false c, if_neg (by decide)]
    congr 1
    symm
    rw [decide_eq_false_iff_not]
    intro h
    exact c ⟨by have := h.pos; omega, by have := h.le; omega⟩
/-- With rounds enough, g answers r. -/
def Evl {α : Type} (g : Nat → Option α) (r : α) : Prop := ∃ K, ∀ k, K ≤ k → g k = some r
theorem Evl.of {α : Type} {g : Nat → Option α} {r : α} (K : Nat) (h : ∀ k, K ≤ k → g k = some r) : Evl g r := ⟨K, h⟩
theorem Evl.step {α : Type} {g h : Nat → Option α} {r : α} (K : Nat) (e : ∀ k, K ≤ k → g (k + 1) = h k) (H : Evl h r) : Evl g r := by
  obtain ⟨K', h'⟩ := H
  refine ⟨K + K' + 1, fun k hk => ?_⟩
  obtain ⟨k, rfl⟩ : ∃ m, k = m + 1 := ⟨k - 1, by omega⟩
  rw [e k (by omega), h' k (by omega)]
theorem Evl.same {α : Type} {g h : Nat → Option α} {r : α} (K : Nat) (e : ∀ k, K ≤ k → g k = h k) (H : Evl h r) : Evl g r := by
  obtain ⟨K', h'⟩ := H
  exact ⟨K + K', fun k hk => by rw [e k (by omega), h' k (by omega)]⟩
theorem Evl.bind {α β : Type} {g : Nat → Option α} {h : Nat → α → Option β} {a : α} {r : β} (H : Evl g a) (H' : Evl (fun k => h k a) r) : Evl (fun k => (g k).bind (h k)) r := by
  obtain ⟨K, h1⟩ := H
  obtain ⟨K', h2⟩ := H'
  exact ⟨K + K', fun k hk => by show (g k).bind (h k) = _; rw [h1 k (by omega)]; exact h2 k (by omega)⟩
def up (S : List Nat) : List Int := S.map (fun v : Nat => (v : Int))
theorem up_length (S : List Nat) : (up S).length = S.length := by simp [up]
theorem up_mem (S : List Nat) (v : Nat) : (v : Int) ∈ up S ↔ v ∈ S := by
  unfold up
  rw [List.mem_map]
  constructor
  · rintro ⟨a, h, e⟩
    obtain rfl : a = v := by omega
    exact h
  · exact fun h => ⟨v, h, rfl⟩
theorem up_snoc (S : List Nat) (a : Nat) : up S ++ [(a : Int)] = up (S ++ [a]) := by simp [up]
end Go.Proofs.Ytaapbnhggfmlpaa.B
end
section
set_option linter.unusedVariables false
set_option linter.unusedSimpArgs false
namespace Go.Proofs.Ytaapbnhggfmlpaa.P
open Go.RowKit Go.Proofs.YtaapbnhggfmlpaaW.PrintWords Go.Proofs.YtaapbnhggfmlpaaW.PrintLast Go.Proofs.YtaapbnhggfmlpaaW.PrintMore
open Go.Proofs.Ytaapbnhggfmlpaa.M
open Go.Proofs.Ytaapbnhggfmlpaa.B (w64 w64s rd_nat)
theorem mark0 (xs : List Int) (hl : xs.length ≤ 1048576) (a : Int) (ha : 0 ≤ a ∧ a ≤ 1152921504606846976) : ∀ (d k i : Nat) (ys : List Int), xs.length - i = d → d < k → i ≤ xs.length → ys.length = xs.length → (∀ j, j < i → ys.getD j 0 = a + j) →
    ∃ zs, laws_markInt64S.l0 k ys (a + i) i = some (a + xs.length, zs) ∧ zs.length = xs.length ∧ ∀ j, j < xs.length → zs.getD j 0 = a + j := by
  intro d
  induction d with
  | zero =>
    intro k i ys hd hk hi hy hj
    obtain ⟨k, rfl⟩ : ∃ m, k = m + 1 := ⟨k - 1, by omega⟩
    obtain rfl : i = xs.length := by omega
    simp only [laws_markInt64S.l0]
    rw [if_neg (by omega)]
    exact ⟨ys, rfl, hy, hj⟩
  | succ d ih =>
    intro k i ys hd hk hi hy hj
    obtain ⟨k, rfl⟩ : ∃ m, k = m + 1 := ⟨k - 1, by omega⟩
    simp only [laws_markInt64S.l0]
    rw [if_pos (by omega), if_pos (by omega), Int.toNat_natCast, w64 (x := a + i + 1) (by omega), w64s (show i < xs.length by omega) (by omega), show a + (i : Int) + 1 = a + ((i + 1 : Nat) : Int) by push_cast; omega]
    refine ih k (i + 1) (ys.set i (a + i)) (by omega) (by omega) (by omega) (by rw [List.length_set]; exact hy) (fun j hj' => ?_)
    simp only [List.getD_eq_getElem?_getD, List.getElem?_set]
    by_cases e : i = j
    · subst e
      rw [if_pos rfl, if_pos (by omega)]
      rfl
    · rw [if_neg e]
      have := hj j (by omega)
      simpa [List.getD_eq_getElem?_getD] using this
theorem mark_f (xs : List Int) (hl : xs.length ≤ 1048576) (a : Int) (ha : 0 ≤ a ∧ a ≤ 1152921504606846976) (k : Nat) (hk : xs.length < k) :
    ∃ zs, laws_markInt64S.f k xs a = some (a + xs.length, zs) ∧ zs.length = xs.length ∧ ∀ j, j < xs.length → zs.getD j 0 = a + j := by
  have := mark0 xs hl a ha xs.length k 0 xs (by omega) hk (by omega) rfl (fun j h => by omega)
  unfold laws_markInt64S.f
  simpa using this
/-- The rows of a table, one by one. -/
theorem S_rows {w : World} {base : Nat} {ok : Nat → Prop} {v : Value} {l : List (List Int)} (h : Kd.S (Kd.slice 2 (Kd.int .i64)) 28 w base ok v l) :
    ∃ (A : Option Addr) (cap : Nat) (us : List Value) (f : Nat → Nat), v = .slice A l.length cap ∧ us.length = l.length ∧ (0 < l.length → ∃ g cur, A = some ⟨g, 0, none⟩ ∧ w.heap[g]? = some (.cells cur 28 (0, 0)) ∧ ∀ j, j < l.length → cur[j]? = us[j]?) ∧
      ∀ j, j < l.length → Kd.R (Kd.int .i64) 2 w base (fun k => (ok k ∧ some k ≠ v.ownBlock) ∧ f k = j) (us.getD j undef) (l.getD j []) := by
  obtain ⟨f, h0, inner, ho, hr⟩ := h
  rw [List.length_zipIdx] at ho
  have hil : inner.length = l.length := by
    have := hr.1
    rw [List.length_zipIdx] at this
    exact this.trans (Nat.mul_one _)
  have hrows : ∀ j, j < l.length → Kd.R (Kd.int .i64) 2 w base (fun k => (ok k ∧ some k ≠ v.ownBlock) ∧ f k = j) (inner.getD j undef) (l.getD j []) := by
    intro j hj
    obtain ⟨u, hu, hR⟩ := hr.2 j (l[j], j) (Kd.zip_at (List.getElem?_eq_getElem hj))
    have hu' : (inner.drop (j * 1)).take 1 = [u] := hu
    rw [Nat.mul_one] at hu'
    have e1 : inner.getD j undef = u := by
      have hlt : j < inner.length := by omega
      rw [List.drop_eq_getElem_cons hlt] at hu'
      simp only [List.take_succ_cons, List.take_zero, List.cons.injEq, and_true] at hu'
      rw [← hu']
      simp [List.getD_eq_getElem?_getD, hlt]
    have e2 : l.getD j [] = l[j] := by simp [List.getD_eq_getElem?_getD, hj]
    rw [e1, e2]
    exact hR
  rcases ho.2 with ⟨rfl, hn⟩ | ⟨g, cap, cur, rfl, hg, hh, hc, hm, hs, ht⟩
  · refine ⟨none, 0, inner, f, by rw [hn], hil, fun h => by omega, hrows⟩
  · refine ⟨some ⟨g, 0, none⟩, cap, inner, f, rfl, hil, fun _ => ⟨g, cur, rfl, hh, fun j hj => ?_⟩, hrows⟩
    have ht' : cur.toList.take (l.length * 1) = inner := ht
    rw [Nat.mul_one] at ht'
    rw [← ht', List.getElem?_take_of_lt hj]
    simp
theorem Fr.of_kept {w0 w w1 : World} {P F : Nat → Prop} (hB : Below w0.heap.size w0 w) (hB1 : Below w0.heap.size w0 w1) (hk : Kept w w1 P) (hP : ∀ k, P k → F k) : Fr F w w1 :=
  ⟨hB1.os.trans hB.os.symm, hB1.tape.trans hB.tape.symm, hB1.output.trans hB.output.symm, hk.1, fun i hi hn => hk.2 i hi fun h => hn (hP i h)⟩
set_option maxHeartbeats 1000000 in
set_option maxRecDepth 100000 in
theorem markSS_ (w0 : World) (ok : Nat → Prop) (v : Value) (l : List (List Int)) (w : World) (hB : Below w0.heap.size w0 w) (hS : Kd.S (Kd.slice 2 (Kd.int .i64)) 28 w w0.heap.size ok v l) (hl : l.length ≤ 1048576) (hm : ∀ j, j < l.length → (l.getD j []).length ≤ 1048576) :
    Calls Try.prog 103 #[v, .int .i64 1] w fun e w' => ∃ r : Int, e = .returned (.int .i64 r) ∧ 0 ≤ r ∧ Fr ok w w' ∧ Below w0.heap.size w0 w' := by
  obtain ⟨A, cap, us, f, rfl, hus, hout, hrows⟩ := S_rows hS
  have HOUT := Aside0.mk hout
  have HROWS := Aside0.mk hrows
  have HB := Aside0.mk hB
  have HM := Aside0.mk hm
  have HFR := Aside0.mk (Fr.refl ok w)
  clear hS hout hrows hB hm
  go_enter Try.func103, Try.ntmps103
  go_wp2
  go_loopw [1, 5] (fun v1 v5 wr => ∃ (i : Nat) (kk : Int), v5 = .int .i64 i ∧ v1 = .int .i64 kk ∧ i ≤ l.length ∧ 0 ≤ kk ∧ kk ≤ 1 + 1048576 * (i : Int) ∧ Aside0 (∀ j, i ≤ j → j < l.length → Kd.R (Kd.int .i64) 2 wr w0.heap.size (fun k => (ok k ∧ some k ≠ (Value.slice A l.length cap).ownBlock) ∧ f k = j) (us.getD j undef) (l.getD j [])) ∧ Aside0 (Fr (fun k => ok k ∧ some k ≠ (Value.slice A l.length cap).ownBlock) w wr) ∧ Aside0 (Below w0.heap.size w0 wr)) (fun _ v _ => l.length - (intOf v).toNat)
  case atStart => exact ⟨0, 1, rfl, rfl, by omega, by omega, by omega, ⟨fun j _ hj => HROWS.out j hj⟩, ⟨Fr.refl _ _⟩, HB⟩
  case round =>
    clear HROWS HB HFR
    obtain ⟨i, kk, rfl, rfl, hi, hk0, hk1, HROWS, HFR, HB⟩ := hrel
    by_cases ci : i < l.length
    · have c1b : decide (i < l.length) = true := decide_eq_true ci
      obtain ⟨g, cur, rfl, hg, hcur⟩ := HOUT.out (by omega)
      have HG := Aside0.mk (HFR.out.blk hg (fun h => h.2 rfl))
      have hcell : wr.cell? ⟨g, i, none⟩ = some (us.getD i undef) := by
        have h1 := (blk_cell HG.out i).trans (hcur i ci)
        rw [h1]
        have : i < us.length := by omega
        simp [List.getD_eq_getElem?_getD, this]
      have HR := Aside0.mk (HROWS.out i (Nat.le_refl _) ci)
      have hlen := HM.out i ci
      obtain ⟨zs, hz, hz1, _⟩ := mark_f (l.getD i []) hlen kk ⟨hk0, by omega⟩ ((l.getD i []).length + 1) (Nat.lt_succ_self _)
      have HZ := Aside0.mk hz
      clear hg hcur hz hz1
      obtain ⟨u, hu⟩ : ∃ u, u = us.getD i undef := ⟨_, rfl⟩
      rw [← hu] at hcell HR
      have HU := Aside0.mk hu
      clear hu
      obtain ⟨m, hmm⟩ : ∃ m : Nat, m = (l.getD i []).length := ⟨_, rfl⟩
      rw [← hmm] at hlen HZ
      have HMM := Aside0.mk hmm
      clear hmm
      go_wp2_with (first
        | (go_at_call 48; (with_reducible refine (laws_markInt64S.calls (m + 1) _ u (l.getD i []) kk (kk + m) zs w0 _ HB.out HR.out HZ.out).mono ?_); rintro e w1 ⟨rfl, hR1, hB1, hK1⟩;
           have n1_ := Aside0.mk (HFR.out.trans (Fr.of_kept (F := fun k => ok k ∧ some k ≠ (Value.slice (some ⟨g, 0, none⟩) l.length cap).ownBlock) HB.out hB1 hK1 (fun k hk => hk.1)));
           have n2_ := Aside0.mk (show ∀ j, i + 1 ≤ j → j < l.length → Kd.R (Kd.int .i64) 2 w1 w0.heap.size (fun k => (ok k ∧ some k ≠ (Value.slice (some ⟨g, 0, none⟩) l.length cap).ownBlock) ∧ f k = j) (us.getD j undef) (l.getD j []) from fun j h1 h2 => Kd.R_step (HROWS.out j (by omega) h2) (fun k hk hlt => hK1.2 k hlt (fun h => by have a := hk.2; have b := h.2; omega)));
           have n3_ := Aside0.mk hB1; clear HFR HROWS HB hcell HG HR HZ HU hR1 hB1 hK1; have HFR := n1_; have HROWS := n2_; have HB := n3_; clear n1_ n2_ n3_))
      go_roundw
      case rel => exact ⟨i + 1, kk + m, by go_num, rfl, by omega, by omega, by push_cast; omega, HROWS, HFR, HB⟩
      case measure => simp [intOf]; omega
    · have c1b : decide (i < l.length) = false := decide_eq_false ci
      go_wp2
      go_ret
      exact ⟨kk, rfl, hk0, ⟨HFR.out.os, HFR.out.tape, HFR.out.output, HFR.out.size, fun j hj hn => HFR.out.block j hj (fun h => hn h.1)⟩, HB.out⟩
set_option maxHeartbeats 1000000 in
set_option maxRecDepth 100000 in
theorem markB_ (w0 : World) (ok : Nat → Prop) (v : Value) (l : List (List Int)) (w : World) (hB : Below w0.heap.size w0 w) (hS : Kd.S (Kd.slice 2 (Kd.int .i64)) 28 w w0.heap.size ok v l) (hl : l.length ≤ 1048576) (hm : ∀ j, j < l.length → (l.getD j []).length ≤ 1048576) :
    Calls Try.prog 51 #[.agg #[v], .int .i64 1] w fun e w' => ∃ r : Int, e = .returned (.int .i64 r) ∧ 0 ≤ r ∧ Fr ok w w' ∧ Below w0.heap.size w0 w' := by
  obtain ⟨A, cap, rfl⟩ := Kd.S_slice hS
  have HB := Aside0.mk hB
  have HS := Aside0.mk hS
  have HM := Aside0.mk hm
  clear hB hS hm
  have hu44 := Try.underlying44
  go_enter Try.func51, Try.ntmps51
  go_wp2_with (first
    | ((with_reducible refine gate_dst (N := 2) rfl ?_); refine box_event ?hg (N := 2) ?hd (cs := #[.slice A l.length cap]) (t := 44) ?hr ?_; (case hd => rfl); (case hg => rfl); (case hr => first | (go_simp; done) | (go_simp; rfl)); intro g2 hg w2 hbox hb; have HFR := Aside0.mk (Fr.of_below (F := ok) hb); have n1_ := Aside0.mk (below_step HB.out hb); have n2_ := Aside0.mk (Kd.S_below HS.out hb); have B2 := Aside0.mk hbox; clear HB HS hb hbox hg; have HB := n1_; have HS := n2_; clear n1_ n2_; have hc2 := (blk_cell B2.out 0).trans rfl)
    | (go_at_call 103; (with_reducible refine (markSS_ w0 ok (.slice A l.length cap) l _ HB.out HS.out hl HM.out).mono ?_); rintro e w3 ⟨r, rfl, hr0, hF, hb⟩; have HF := Aside0.mk (HFR.out.trans hF); have HB3 := Aside0.mk hb; clear hF hb hc2))
  go_ret
  exact ⟨r, rfl, hr0, HF.out, HB3.out⟩
end Go.Proofs.Ytaapbnhggfmlpaa.P
end
section
set_option linter.unusedVariables false
namespace Go.Proofs.Ytaapbnhggfmlpaa.M
open Go.Maps Go.RowKit
structure T3 where
  d : Int
  l : Int
  s : Int
deriving DecidableEq
def T3.ok (t : T3) : Prop := (Lit.int .i64 t.d).wf = true ∧ (Lit.int .i64 t.l).wf = true ∧ (Lit.int .i64 t.s).wf = true
abbrev T3.v (t : T3) : Value := .agg #[.int .i64 t.d, .int .i64 t.l, .int .i64 t.s]
theorem laidOut_ : laidOutB Try.prog = true := by kernel_rfl
theorem law150 : Keyed Try.prog 150 :=
  Keyed.of_law (deep_law_laid laidOut_ (m := Try.prog.types.size + 1) (of_decide_eq_true (by kernel_rfl)) (of_decide_eq_true (by kernel_rfl)) (by kernel_rfl) (by kernel_rfl))
theorem kt150 : Try.prog.keyType 150 = true := by kernel_rfl
def tk (t : T3) : Lit := .string (keyBytes [.int .i64 t.d, .int .i64 t.l, .int .i64 t.s])
theorem key_of (t : T3) (h : t.ok) : keyOf Try.prog 150 t.v = some (tk t) := by
  obtain ⟨h1, h2, h3⟩ := h
  have hs : Try.prog.types.size = Try.prog.types.size - 1 + 1 := by kernel_rfl
  have e3 : Try.prog.underlying 3 = some (.int .i64) := Try.underlying3
  have k3 : ∀ (m : Nat) (x : Int), (Lit.int .i64 x).wf = true → Try.prog.keyLits (m + 1) 3 [.int .i64 x] = some [.int .i64 x] := by
    intro m x hx
    simp only [Program.keyLits, e3]
    rw [if_pos ⟨trivial, hx⟩]
  have hf : (t.v).formed Try.prog 150 = true := by
    simp only [Value.formed, Try.underlying150]
    kernel_rfl
  have c3 : Try.prog.cellsOf 3 = 1 := by kernel_rfl
  have c150 : Try.prog.cellsOf 150 = 3 := by kernel_rfl
  have kl : ∀ m, Try.prog.keyLits (m + 2) 150 [.int .i64 t.d, .int .i64 t.l, .int .i64 t.s] = some [.int .i64 t.d, .int .i64 t.l, .int .i64 t.s] := by
    intro m
    conv => lhs; unfold Program.keyLits
    simp only [Try.underlying150]
    rw [if_pos ⟨by rw [c150]; rfl, by kernel_rfl⟩]
    simp [c3, k3 m _ h1, k3 m _ h2, k3 m _ h3]
  unfold keyOf
  simp only [Try.underlying150, kt150, hf, Bool.and_self, if_true]
  rw [hs, show t.v.cells.toList = [.int .i64 t.d, .int .i64 t.l, .int .i64 t.s] from rfl, kl]
  rfl
theorem tk_inj {t u : T3} (ht : t.ok) (hu : u.ok) (h : tk t = tk u) : t = u := by
  have e : t.v = u.v := law150.inj (key_of t ht) (by rw [h]; exact key_of u hu)
  cases t; cases u
  simp at e
  simp [e]
theorem zero2 (w : World) : (zeroValue 2).run Try.prog w = .ok (.int .i64 0) w := by kernel_rfl
def TM (w : World) (b n : Nat) (f : T3 → Option Int) : Prop :=
  ∃ D : DataW Unit, w.ownsMap Try.prog 150 (plainElem Try.prog 2) b n D ∧ ∀ t, t.ok → Maps.has D (tk t) = (f t).isSome ∧ D.atKey (tk t) (.lit (.int .i64 0)) = .lit (.int .i64 ((f t).getD 0))
section
variable {w : World} {b n : Nat} {f : T3 → Option Int}
theorem TM.made (w : World) : TM (w.alloc (.map #[] 0)) w.heap.size 0 (fun _ => none) :=
  ⟨.map [], World.ownsMap_made w Try.prog 150 _, fun a _ => ⟨by simp [Maps.has], by simp [DataW.atKey]⟩⟩
theorem TM.kept {w' : World} {row : Option Nat} (h : TM w b n f) (hg : w.grownBy w' row) (hne : some b ≠ row) : TM w' b n f := by
  obtain ⟨D, ho, r⟩ := h
  exact ⟨D, ho.kept hg hne, r⟩
theorem TM.lt (h : TM w b n f) : b < w.heap.size := by
  obtain ⟨D, ho, r⟩ := h
  exact ho.lt
theorem TM.drew (h : TM w b n f) : TM w.drew b n f := h
theorem TM.drewN (h : TM w b n f) (m : Nat) : TM (w.drewN m) b n f := h
theorem TM.heap {w' : World} (h : TM w b n f) (he : w'.heap[b]? = w.heap[b]?) : TM w' b n f := by
  obtain ⟨D, ⟨es, clock, hb, r1⟩, r⟩ := h
  exact ⟨D, ⟨es, clock, he.trans hb, r1⟩, r⟩
theorem TM.look (h : TM w b n f) {t : T3} (ht : t.ok) :
    (Instr.lookup 111 (.map (some b)) t.v true).run Try.prog w = .ok (.tuple #[.int .i64 ((f t).getD 0), .bool (f t).isSome]) w := by
  obtain ⟨D, ho, hat⟩ := h
  obtain ⟨v, ps, hrun, hv⟩ := ho.look_ok law150 Try.underlying111 (zero2 w) (plainElem_int Try.underlying2 (by decide)) (key_of t ht)
  obtain ⟨c, rfl, hc, _⟩ := plainElem_int_inv Try.underlying2 hv
  rw [hrun, (hat t ht).1]
  have e := congrArg Prod.fst hc
  simp only at e
  rw [(hat t ht).2] at e
  rw [(Lit.int.inj (DataW.lit.inj e)).2]
theorem tk_is (t : T3) : WideAt.IsKeyLit (tk t) := trivial
theorem TM.put (h : TM w b n f) (hn : n < maxLen) {t : T3} (ht : t.ok) {x : Int} (hx : (Lit.int .i64 x).wf = true) :
    ∃ w', (Instr.mapUpdate 111 (.map (some b)) t.v (.int .i64 x)).run Try.prog w = .ok () w' ∧ TM w' b (n + 1) (fun u => if u = t then some x else f u) ∧ w.mapTurned w' b := by
  obtain ⟨D, ho, hat⟩ := h
  obtain ⟨w', hrun, h1, h2⟩ := ho.store law150 Try.underlying111 hn (key_of t ht) (plainElem_int Try.underlying2 hx)
  have hT := ho.tidy law150
  refine ⟨w', hrun, ⟨_, h1, fun u hu => ?_⟩, h2⟩
  by_cases e : u = t
  · subst e
    exact ⟨by rw [has_put_same hT.isMap (tk_is _)]; simp, by rw [atKey_put_same hT.isMap (tk_is _)]; simp⟩
  · have ne : tk u ≠ tk t := fun e' => e (tk_inj hu ht e')
    exact ⟨by rw [has_put_other ne, (hat u hu).1]; simp [e], by rw [atKey_put_other ne, (hat u hu).2]; simp [e]⟩
end
section
variable (w : World) {ops : Array Oper} {rest : List Oper} {o : Oper} {a : Act} {Q : Exit → Act → World → Prop}
theorem wp_tput (hg : o.guard = none) (m x v : Operand) (hop : o.op = Op.mapUpdate 111 m x v ∨ o.op = Op.insert 111 m x v) (b n : Nat) (f : T3 → Option Int)
    (hm : a.eval m = .map (some b)) (h : TM w b n f) (hn : n < maxLen) (t : T3) (y : Int) (hx : a.eval x = t.v) (hv : a.eval v = .int .i64 y) (ht : t.ok) (hy : (Lit.int .i64 y).wf = true)
    (hK : ∀ w', TM w' b (n + 1) (fun u => if u = t then some y else f u) → w.grownBy w' (some b) → wpList Try.prog ops Q rest (a.put o.dst undef) w') : wpList Try.prog ops Q (o :: rest) a w := by
  refine wpList_plain hg fun K' hK' => ?_
  obtain ⟨w', hrun, r1, r2⟩ := h.put hn ht hy
  unfold Oper.wp
  rcases hop with hop | hop
  · simp [execOp, hop, hm, hx, hv, hrun, Result.andThen]
    exact hK' _ _ (hK w' r1 r2.grown)
  · simp [execOp, hop, hm, hx, hv, hrun, Result.andThen]
    exact hK' _ _ (hK w' r1 r2.grown)
theorem wp_tmake (hg : o.guard = none) (hop : o.op = Op.makeMap 111 none)
    (hK : ∀ b w', b = w.heap.size → TM w' b 0 (fun _ => none) → Below w.heap.size w w' → wpList Try.prog ops Q rest (a.put o.dst (.map (some b))) w') : wpList Try.prog ops Q (o :: rest) a w := by
  refine wpList_plain hg fun K' hK' => ?_
  unfold Oper.wp
  simp [execOp, hop, run_makeMap, Result.andThen]
  exact hK' _ _ (hK _ _ rfl (TM.made w) ((Below.refl _ _).alloc (Nat.le_refl _) _))
end
end Go.Proofs.Ytaapbnhggfmlpaa.M
end
section
set_option linter.unusedVariables false
namespace Go.Proofs.Ytaapbnhggfmlpaa.A
open Go.RowKit Go.Proofs.Ytaapbnhggfmlpaa.P Go.Proofs.YtaapbnhggfmlpaaW.PrintWords Go.Proofs.Ytaapbnhggfmlpaa.M
def setb (d : Int) (i : Nat) : Int := bits BinOp.or IntKind.i64 d (wrap64 (2 ^ i))
def full (n : Nat) : Int := wrap64 (wrap64 (2 ^ n) - 1)
structure Itm where
  w : Nat
  c : Int
  t : T3
def skipb (n : Nat) (fin : Int) (d : Int) (i : Nat) : Prop :=
  bits BinOp.and IntKind.i64 (d / 2 ^ i) 1 = 1 ∨ (0 ≤ fin ∧ ((i : Int) == fin) ≠ (setb d i == full n))
instance (n : Nat) (fin d : Int) (i : Nat) : Decidable (skipb n fin d i) := by unfold skipb; infer_instance
def itm (l : List (List Int)) (fin : Int) (t : T3) (i : Nat) : List Itm :=
  if skipb l.length fin t.d i then [] else
    ⟨i, rd (rd_Ls2 l t.l) i, ⟨setb t.d i, i, t.s⟩⟩ :: (if 0 < t.s then [⟨i, 0, ⟨setb t.d i, i, t.s - 1⟩⟩] else [])
def itms (l : List (List Int)) (fin : Int) (t : T3) (i : Nat) : List Itm := (List.range i).flatMap (itm l fin t)
theorem itms_succ (l : List (List Int)) (fin : Int) (t : T3) (i : Nat) : itms l fin t (i + 1) = itms l fin t i ++ itm l fin t i := by
  unfold itms
  rw [List.range_succ, List.flatMap_append]
  simp
theorem itms_split (l : List (List Int)) (fin : Int) (t : T3) {i n : Nat} (h : i < n) : ∃ post, itms l fin t n = itms l fin t i ++ (itm l fin t i ++ post) := by
  obtain ⟨k, rfl⟩ : ∃ k, n = i + 1 + k := ⟨n - (i + 1), by omega⟩
  clear h
  induction k with
  | zero => exact ⟨[], by rw [Nat.add_zero, itms_succ, List.append_nil]⟩
  | succ k ih =>
    obtain ⟨post, e⟩ := ih
    exact ⟨post ++ itm l fin t (i + 1 + k), by rw [← Nat.add_assoc, itms_succ, e, List.append_assoc, List.append_assoc]⟩
end Go.Proofs.Ytaapbnhggfmlpaa.A
end
section
set_option linter.unusedVariables false
namespace Go.Proofs.Ytaapbnhggfmlpaa.A
open Go.RowKit Go.Proofs.Ytaapbnhggfmlpaa.P Go.Proofs.YtaapbnhggfmlpaaW.PrintWords Go.Proofs.Ytaapbnhggfmlpaa.M
theorem i64_nat (a b : Nat) (ha : a < 2 ^ 20) (hb : b < 2 ^ 20) : bits .and .i64 a b = ((a &&& b : Nat) : Int) ∧ bits .or .i64 a b = ((a ||| b : Nat) : Int) :=
  bits_nat .i64 20 (by decide) (fun n h0 h1 => by rw [IntKind.wrap_i64]; omega) a b ha hb
theorem pow9 {i : Nat} (hi : i ≤ 9) : 2 ^ i ≤ 512 := by
  have : (2:Nat) ^ i ≤ 2 ^ 9 := Nat.pow_le_pow_right (by decide) hi
  simpa using this
theorem wpow (i : Nat) (hi : i ≤ 9) : wrap64 (2 ^ i) = ((2 ^ i : Nat) : Int) := by
  have e : (2 : Int) ^ i = ((2 ^ i : Nat) : Int) := by simp
  have h := pow9 hi
  rw [e]
  clear e
  generalize 2 ^ i = x at h ⊢
  exact Go.IntWalk.wrap64_in _ ⟨by omega, by omega⟩
theorem setb_nat (D i : Nat) (hD : D < 2 ^ 9) (hi : i < 9) : setb D i = ((D ||| 2 ^ i : Nat) : Int) := by
  unfold setb
  rw [wpow i (by omega)]
  exact (i64_nat D (2 ^ i) (by omega) (by have := pow9 (Nat.le_of_lt hi); omega)).2
theorem or_lt {n D i : Nat} (hD : D < 2 ^ n) (hi : i < n) : D ||| 2 ^ i < 2 ^ n := Nat.or_lt_two_pow hD (Nat.pow_lt_pow_right (by decide) hi)
theorem full_nat (n : Nat) (hn : n ≤ 9) : full n = ((2 ^ n - 1 : Nat) : Int) := by
  unfold full
  have := pow9 hn
  have := Nat.one_le_two_pow (n := n)
  rw [wpow n hn, Go.IntWalk.wrap64_in _ ⟨by omega, by omega⟩]
  omega
theorem tst_nat (D i : Nat) (hD : D < 2 ^ 9) : bits .and .i64 ((D : Int) / 2 ^ i) 1 = 1 ↔ D.testBit i = true := by
  have e : ((D : Int) / 2 ^ i) = ((D / 2 ^ i : Nat) : Int) := by simp
  rw [e]
  have h1 := (i64_nat (D / 2 ^ i) 1 (Nat.lt_of_le_of_lt (Nat.div_le_self _ _) (by omega)) (by decide)).1
  rw [show ((1 : Nat) : Int) = 1 from rfl] at h1
  rw [h1, Nat.and_one_is_mod, Nat.testBit_eq_decide_div_mod_eq]
  simp
  omega
/-- How many of the first n wires have no place. -/
def ucnt (n D : Nat) : Nat := ((List.range n).filter fun i => !D.testBit i).length
theorem ucnt_le (n D : Nat) : ucnt n D ≤ n := by
  unfold ucnt
  refine Nat.le_trans (List.length_filter_le _ _) (by simp)
theorem ucnt_succ (n D : Nat) : ucnt (n + 1) D = ucnt n D + (if D.testBit n then 0 else 1) := by
  unfold ucnt
  rw [List.range_succ, List.filter_append, List.length_append]
  cases h : D.testBit n <;> simp [h]
theorem testBit_or_pow (D i j : Nat) : (D ||| 2 ^ i).testBit j = (D.testBit j || decide (i = j)) := by
  rw [Nat.testBit_or, Nat.testBit_two_pow]
theorem ucnt_or (n D i : Nat) (hb : D.testBit i = false) : ucnt n (D ||| 2 ^ i) + (if i < n then 1 else 0) = ucnt n D := by
  induction n with
  | zero => simp [ucnt]
  | succ n ih =>
    rw [ucnt_succ, ucnt_succ, testBit_or_pow]
    by_cases e : i = n
    · subst e
      rw [if_neg (Nat.lt_irrefl i)] at ih
      rw [if_pos (Nat.lt_succ_self i), if_pos (show (D.testBit i || decide (i = i)) = true by simp), if_neg (show ¬ D.testBit i = true by simp [hb])]
      omega
    · by_cases hl : i < n
      · rw [if_pos hl] at ih
        rw [if_pos (show i < n + 1 by omega), show (D.testBit n || decide (i = n)) = D.testBit n by simp [e]]
        omega
      · rw [if_neg hl] at ih
        rw [if_neg (show ¬ i < n + 1 by omega), show (D.testBit n || decide (i = n)) = D.testBit n by simp [e]]
        omega
theorem ucnt_zero (n D : Nat) (hD : D < 2 ^ n) : ucnt n D = 0 ↔ D = 2 ^ n - 1 := by
  have h0 : ucnt n D = 0 ↔ ∀ i, i < n → D.testBit i = true := by
    unfold ucnt
    rw [List.length_eq_zero_iff, List.filter_eq_nil_iff]
    simp
  rw [h0]
  constructor
  · intro h
    refine Nat.eq_of_testBit_eq fun i => ?_
    rw [Nat.testBit_two_pow_sub_one]
    by_cases hi : i < n
    · simp [hi, h i hi]
    · simp [hi]
      exact Nat.testBit_lt_two_pow (Nat.lt_of_lt_of_le hD (Nat.pow_le_pow_right (by decide) (by omega)))
  · rintro rfl i hi
    rw [Nat.testBit_two_pow_sub_one]
    simp [hi]
/-- A task that can come up. -/
def Tk (n : Nat) (t : T3) : Prop := ∃ D L S : Nat, t = ⟨D, L, S⟩ ∧ D < 2 ^ n ∧ L < n ∧ S ≤ 9
theorem Tk.ok {n : Nat} {t : T3} (hn : n ≤ 9) (h : Tk n t) : t.ok := by
  obtain ⟨D, L, S, rfl, h1, h2, h3⟩ := h
  have := pow9 hn
  unfold T3.ok
  refine ⟨?_, ?_, ?_⟩
  all_goals
    simp only [Lit.wf, Bool.and_eq_true, decide_eq_true_eq, show IntKind.i64.min = -9223372036854775808 from rfl, show IntKind.i64.max = 9223372036854775807 from rfl]
    omega
def tcnt (n : Nat) (t : T3) : Nat := ucnt n t.d.toNat
theorem itm_ok {l : List (List Int)} {fin : Int} {t : T3} {i : Nat} (hn : l.length ≤ 9) (ht : Tk l.length t) (hi : i < l.length) : ∀ x ∈ itm l fin t i, Tk l.length x.t ∧ tcnt l.length x.t + 1 = tcnt l.length t ∧ x.w = i ∧ t.d.toNat.testBit i = false ∧ x.t.d.toNat = t.d.toNat ||| 2 ^ i ∧ x.t.l = i := by
  obtain ⟨D, L, S, rfl, h1, h2, h3⟩ := ht
  have h9 := pow9 hn
  intro x hx
  unfold itm at hx
  by_cases hs : skipb l.length fin (D : Int) i
  · rw [if_pos hs] at hx
    cases hx
  · rw [if_neg hs] at hx
    have hb : D.testBit i = false := by
      cases hb : D.testBit i
      · rfl
      · exact absurd (.inl ((tst_nat D i (by omega)).2 hb)) hs
    have e := setb_nat D i (by omega) (by omega)
    have hc := ucnt_or l.length D i hb
    rw [if_pos hi] at hc
    have hlt := or_lt h1 hi
    have fin_ : ∀ S' : Nat, S' ≤ 9 → ∀ c : Int, x = ⟨i, c, ⟨setb D i, i, S'⟩⟩ → Tk l.length x.t ∧ tcnt l.length x.t + 1 = tcnt l.length ⟨D, L, S⟩ ∧ x.w = i ∧ (Int.toNat D).testBit i = false ∧ x.t.d.toNat = Int.toNat D ||| 2 ^ i ∧ x.t.l = i := by
      rintro S' hS' c rfl
      refine ⟨⟨D ||| 2 ^ i, i, S', by simp only [e], hlt, hi, hS'⟩, ?_, rfl, by simpa using hb, by simp only [e, Int.toNat_natCast], rfl⟩
      unfold tcnt
      simp only [e, Int.toNat_natCast]
      exact hc
    rcases List.mem_cons.1 hx with rfl | hx
    · exact fin_ S h3 _ rfl
    · by_cases hS : (0 : Int) < (S : Int)
      · rw [if_pos hS] at hx
        obtain rfl := List.mem_singleton.1 hx
        exact fin_ (S - 1) (by omega) 0 (by
          have : ((S - 1 : Nat) : Int) = (S : Int) - 1 := by omega
          rw [this])
      · rw [if_neg hS] at hx
        cases hx
theorem itms_ok {l : List (List Int)} {fin : Int} {t : T3} (hn : l.length ≤ 9) (ht : Tk l.length t) : ∀ x ∈ itms l fin t l.length, Tk l.length x.t ∧ tcnt l.length x.t + 1 = tcnt l.length t ∧ x.w < l.length ∧ t.d.toNat.testBit x.w = false ∧ x.t.d.toNat = t.d.toNat ||| 2 ^ x.w ∧ x.t.l = x.w := by
  intro x hx
  unfold itms at hx
  obtain ⟨i, hi, hx⟩ := List.mem_flatMap.1 hx
  obtain ⟨a, b, c, d, e, f⟩ := itm_ok hn ht (List.mem_range.1 hi) x hx
  exact ⟨a, b, c ▸ List.mem_range.1 hi, c ▸ d, by rw [e, c], by rw [f, c]⟩
def stepF (F : T3 → Int) (best : Int) (x : Itm) : Int :=
  if 0 ≤ F x.t ∧ (best < 0 ∨ wrap64 (F x.t + x.c) < best) then wrap64 (F x.t + x.c) else best
def baseF (fin : Int) (t : T3) : Int := if 0 < t.s ∨ (0 ≤ fin ∧ t.l ≠ fin) then -1 else 0
def leftF (l : List (List Int)) (fin : Int) : Nat → T3 → Int
  | 0, t => if t.d = full l.length then baseF fin t else -1
  | k + 1, t => if t.d = full l.length then baseF fin t else (itms l fin t l.length).foldl (stepF (leftF l fin k)) (-1)
theorem foldl_congr {α β : Type} {f g : α → β → α} (xs : List β) (a : α) (h : ∀ x ∈ xs, ∀ a, f a x = g a x) : xs.foldl f a = xs.foldl g a := by
  induction xs generalizing a with
  | nil => rfl
  | cons x xs ih => rw [List.foldl_cons, List.foldl_cons, h x (List.mem_cons_self ..), ih _ fun y hy => h y (List.mem_cons_of_mem _ hy)]
theorem leftF_fuel {l : List (List Int)} {fin : Int} (hn : l.length ≤ 9) : ∀ (k : Nat) (t : T3), Tk l.length t → tcnt l.length t ≤ k → leftF l fin k t = leftF l fin (tcnt l.length t) t := by
  intro k
  induction k using Nat.strongRecOn with
  | _ k ih =>
    intro t ht hk
    have hf : tcnt l.length t = 0 → t.d = full l.length := by
      obtain ⟨D, L, S, rfl, h1, h2, h3⟩ := ht
      intro h
      have := (ucnt_zero l.length D h1).1 (by simpa [tcnt] using h)
      simp only [full_nat _ hn, ← this]
    by_cases hd : t.d = full l.length
    · cases k <;> cases tcnt l.length t <;> simp [leftF, hd]
    · cases k with
      | zero => exact absurd (hf (by omega)) hd
      | succ k =>
        obtain ⟨c, hc⟩ : ∃ c, tcnt l.length t = c + 1 := ⟨tcnt l.length t - 1, by have := mt hf hd; omega⟩
        rw [hc]
        simp only [leftF, if_neg hd]
        refine foldl_congr _ _ fun x hx a => ?_
        obtain ⟨h1, h2, _⟩ := itms_ok hn ht x hx
        have e : leftF l fin k x.t = leftF l fin c x.t := by
          rw [ih k (by omega) x.t h1 (by omega)]
          by_cases hck : c < k + 1
          · rw [ih c hck x.t h1 (by omega)]
          · omega
        unfold stepF
        rw [e]
/-- What is left, with enough rounds. -/
def lf (l : List (List Int)) (fin : Int) (t : T3) : Int := leftF l fin 10 t
theorem lf_full {l : List (List Int)} {fin : Int} {t : T3} (h : t.d = full l.length) : lf l fin t = baseF fin t := by
  simp [lf, leftF, h]
theorem lf_eq {l : List (List Int)} {fin : Int} (hn : l.length ≤ 9) {t : T3} (ht : Tk l.length t) (h : t.d ≠ full l.length) : lf l fin t = (itms l fin t l.length).foldl (stepF (lf l fin)) (-1) := by
  unfold lf
  conv => lhs; unfold leftF
  rw [if_neg h]
  refine foldl_congr _ _ fun x hx a => ?_
  obtain ⟨h1, h2, _⟩ := itms_ok hn ht x hx
  have e : leftF l fin 9 x.t = leftF l fin 10 x.t := by
    have := ucnt_le l.length x.t.d.toNat
    have h3 : tcnt l.length x.t ≤ 9 := by unfold tcnt; omega
    rw [leftF_fuel hn 9 x.t h1 h3, leftF_fuel hn 10 x.t h1 (by omega)]
  unfold stepF
  rw [e]
theorem wf_small {x : Int} (h : -9223372036854775808 ≤ x ∧ x ≤ 9223372036854775807) : (Lit.int .i64 x).wf = true := by
  simp only [Lit.wf, Bool.and_eq_true, decide_eq_true_eq, show IntKind.i64.min = -9223372036854775808 from rfl, show IntKind.i64.max = 9223372036854775807 from rfl]
  exact h
theorem lf_wf (l : List (List Int)) (fin : Int) (t : T3) : (Lit.int .i64 (lf l fin t)).wf = true := by
  have hb : (Lit.int .i64 (baseF fin t)).wf = true := by
    unfold baseF
    split <;> exact wf_small (by decide)
  unfold lf leftF
  split
  · exact hb
  · generalize itms l fin t l.length = xs
    suffices h : ∀ (ys : List Itm) (a : Int), (Lit.int .i64 a).wf = true → (Lit.int .i64 (ys.foldl (stepF (leftF l fin 9)) a)).wf = true from h xs (-1) (wf_small (by decide))
    intro ys
    induction ys with
    | nil => exact fun a h => h
    | cons y ys ih =>
      intro a h
      rw [List.foldl_cons]
      refine ih _ ?_
      unfold stepF
      split
      · exact wrap64_wf _
      · exact h
end Go.Proofs.Ytaapbnhggfmlpaa.A
end
section
set_option linter.unusedVariables false
namespace Go.Proofs.Ytaapbnhggfmlpaa.P
open Go.RowKit Go.Proofs.YtaapbnhggfmlpaaW.PrintWords Go.Proofs.YtaapbnhggfmlpaaW.PrintLast Go.Proofs.YtaapbnhggfmlpaaW.PrintMore
section
variable {P : Program} {ops : Array Oper} {Q : Exit → Act → World → Prop}
theorem goesC_ {oi : Oper} {N : Option Tmp} {a : Act} {w : World} {K : Act → World → Prop} {f : FuncId} {fn : Func} {s : Operand} {ass : Array Operand} {ts : Array TypeId} (hf : P.funcs[f]? = some fn) (hname : (fn.name == "runtime.NumGoroutine") = false) (hb : fn.body.isSome = true) (vals caps args : Array Value)
    (hw : Region.wanted oi (yielded ops a.tmps) = true) (hN : oi.dst = N) (hop : oi.op = .call { callee := .value s, args := ass, argTypes := ts }) (hs : a.eval s = .func (.func f) #[] caps) (hvals : ass.map a.eval = vals) (hargs : vals ++ caps = args)
    (h : Calls P f args w fun e w' => ∃ v, e = .returned v ∧ K (a.put N v) w') : if Region.wanted oi (yielded ops a.tmps) = true then Oper.wp P oi a w K Q else K (a.put N undef) w := by
  refine call_ f args hw hN ?_ h
  subst hargs
  have he := enters_ hf hname hb (vals ++ caps) w
  unfold execOp
  simp [hop, resolve, Deferred.ofValue, invoke, hs, hvals, he]
theorem tput_ {oi : Oper} {a : Act} {w w1 : World} {K : Act → World → Prop} {m x v : Operand} {ty : TypeId} {b : Nat} {tv yv : Value} (hw : Region.wanted oi (yielded ops a.tmps) = true) (hN : oi.dst = none) (hop : oi.op = .mapUpdate ty m x v)
    (hm : a.eval m = .map (some b)) (hx : a.eval x = tv) (hv : a.eval v = yv) (hrun : (Instr.mapUpdate ty (.map (some b)) tv yv).run P w = .ok () w1)
    (h : K a w1) : if Region.wanted oi (yielded ops a.tmps) = true then Oper.wp P oi a w K Q else K (a.put none undef) w := by
  refine skip_ hw hN ?_ h
  unfold execOp
  simp [hop, hm, hx, hv, hrun]
end
end Go.Proofs.Ytaapbnhggfmlpaa.P
end
section
set_option linter.unusedVariables false
set_option linter.unusedSimpArgs false
namespace Go.Proofs.Ytaapbnhggfmlpaa.P
open Go.RowKit Go.Proofs.YtaapbnhggfmlpaaW.PrintWords Go.Proofs.YtaapbnhggfmlpaaW.PrintLast Go.Proofs.YtaapbnhggfmlpaaW.PrintMore
open Go.Proofs.Ytaapbnhggfmlpaa.M Go.Proofs.Ytaapbnhggfmlpaa.A
structure PL (w : World) (gp gb gm : Nat) (A : Option Addr) (c : Nat) (l : List (List Int)) (fin : Int) : Prop where
  p : w.heap[gp]? = some (.cells #[.pointer (some ⟨gb, 0, none⟩), .int .i64 fin, .map (some gm)] 113 (0, 0))
  b : w.heap[gb]? = some (.cells #[.slice A l.length c] 44 (0, 0))
  r : Kd.C (Kd.slice 2 (Kd.int .i64)) w A l.length l
/-- The facts that a round of the choices reads. -/
structure Rd (w : World) (gp gb gm gt : Nat) (A : Option Addr) (c : Nat) (l : List (List Int)) (fin d tl ts : Int) : Prop where
  c0 : w.cell? ⟨gp, 0, none⟩ = some (.pointer (some ⟨gb, 0, none⟩))
  c1 : w.cell? ⟨gp, 1, none⟩ = some (.int .i64 fin)
  c2 : w.cell? ⟨gb, 0, none⟩ = some (.slice A l.length c)
  d0 : w.cell? ⟨gt, 0, none⟩ = some (.int .i64 d)
  d1 : w.cell? ⟨gt, 1, none⟩ = some (.int .i64 tl)
  d2 : w.cell? ⟨gt, 2, none⟩ = some (.int .i64 ts)
theorem Rd.mk_ {w : World} {gp gb gm gt : Nat} {A : Option Addr} {c : Nat} {l : List (List Int)} {fin d tl ts : Int} (h : PL w gp gb gm A c l fin) (hb : w.heap[gt]? = some (.cells #[.int .i64 d, .int .i64 tl, .int .i64 ts] 150 (0, 0))) :
    Rd w gp gb gm gt A c l fin d tl ts :=
  ⟨(blk_cell h.p 0).trans rfl, (blk_cell h.p 1).trans rfl, (blk_cell h.b 0).trans rfl, (blk_cell hb 0).trans rfl, (blk_cell hb 1).trans rfl, (blk_cell hb 2).trans rfl⟩
set_option maxHeartbeats 2000000 in
set_option maxRecDepth 100000 in
theorem choices_ {f : FuncId} {fn : Func} (hf : Try.prog.funcs[f]? = some fn) (hnm : (fn.name == "runtime.NumGoroutine") = false) (hbd : fn.body.isSome = true) (caps : Array Value) (gp gb gm : Nat) (A : Option Addr) (c : Nat) (l : List (List Int)) (fin d ts : Int) (tl : Nat) (w : World) (I : List Itm → World → Prop) (F : Nat → Prop)
    (hn : l.length ≤ 9) (htl : tl < l.length) (hts : 0 ≤ ts ∧ ts ≤ 9) (hrow : ∀ j : Nat, j < l.length → (rd_Ls2 l j).length = l.length)
    (hI0 : I [] w) (hPL : ∀ pre w', I pre w' → PL w' gp gb gm A c l fin) (hst : ∀ pre w1 w2, I pre w1 → Below w1.heap.size w1 w2 → I pre w2) (hF : ∀ k, F k → k < w.heap.size)
    (hdo : ∀ pre x post w', itms l fin ⟨d, tl, ts⟩ l.length = pre ++ x :: post → I pre w' →
      Calls Try.prog f (#[.int .i64 x.w, .int .i64 x.c, x.t.v] ++ caps) w' fun e w'' => e = .returned (.tuple #[]) ∧ I (pre ++ [x]) w'' ∧ Fr F w' w'') :
    Calls Try.prog 124 #[.pointer (some ⟨gp, 0, none⟩), T3.v ⟨d, tl, ts⟩, .func (.func f) #[] caps] w fun e w' => e = .returned (.tuple #[]) ∧ I (itms l fin ⟨d, tl, ts⟩ l.length) w' ∧ Fr F w w' := by
  have HI0 := Aside0.mk hI0
  have HPL := Aside0.mk hPL
  have HST := Aside0.mk hst
  have HF := Aside0.mk hF
  have HDO := Aside0.mk hdo
  have HROW := Aside0.mk hrow
  have hp := hPL _ _ hI0
  have hc0 : w.cell? ⟨gp, 0, none⟩ = some (.pointer (some ⟨gb, 0, none⟩)) := (blk_cell hp.p 0).trans rfl
  have hc2 : w.cell? ⟨gb, 0, none⟩ = some (.slice A l.length c) := (blk_cell hp.b 0).trans rfl
  clear hI0 hPL hst hF hdo hrow hp
  obtain ⟨hts0, hts9⟩ := hts
  have hu150 := Try.underlying150
  have hu113 := Try.underlying113
  have hu44 := Try.underlying44
  go_enter Try.func124, Try.ntmps124
  go_wp2_with (first
      | ((with_reducible refine gate_dst (N := 4) rfl ?_); refine box_event ?hg (N := 4) ?hd (cs := #[.int .i64 d, .int .i64 tl, .int .i64 ts]) (t := 150) ?hr ?_; (case hd => rfl); (case hg => rfl); (case hr => first | (go_simp; done) | (go_simp; rfl)); intro gt hg w2 hbox hb; clear hc0 hc2; have HI := Aside0.mk (HST.out _ _ _ HI0.out hb); have HFR := Aside0.mk (Fr.of_below (F := F) hb); have BK := Aside0.mk hbox; have hgt := Aside0.mk (show ¬ F gt from fun hf => by have := HF.out _ hf; omega); clear HI0 hb hbox hg; have hp := HPL.out _ _ HI.out; have hc0 : w2.cell? ⟨gp, 0, none⟩ = some (.pointer (some ⟨gb, 0, none⟩)) := (blk_cell hp.p 0).trans rfl; have hc2 : w2.cell? ⟨gb, 0, none⟩ = some (.slice A l.length c) := (blk_cell hp.b 0).trans rfl; clear hp))
  clear hc0 hc2
  go_loopw [18] (fun v18 wr => ∃ i : Nat, v18 = .int .i64 i ∧ i ≤ l.length ∧ Aside0 (I (itms l fin ⟨d, tl, ts⟩ i) wr) ∧ Aside0 (Fr F w wr) ∧ Aside0 (wr.heap[gt]? = some (.cells #[.int .i64 d, .int .i64 tl, .int .i64 ts] 150 (0, 0)))) (fun v _ => l.length - (intOf v).toNat)
  case atStart => exact ⟨0, rfl, by omega, HI, HFR, BK⟩
  case round =>
    clear HI HFR BK
    obtain ⟨i, rfl, hi, HI, HFR, BK⟩ := hrel
    by_cases ci : i < l.length
    · have hsucc := Aside0.mk (itms_succ l fin ⟨d, tl, ts⟩ i)
      obtain ⟨hc0, hc1, hc2, hd0, hd1, hd2⟩ := Rd.mk_ (HPL.out _ _ HI.out) BK.out
      have hR := Aside0.mk (HPL.out _ _ HI.out).r
      obtain ⟨ad, A1, cc1, e1, hx1, hl1, hi1⟩ := at_Ls2 hR.out (tl : Int) (by omega) (by omega)
      cases e1
      obtain ⟨ad2, e2, hx2⟩ := Kd.at_int hi1 (i : Int) (by omega) (by rw [HROW.out tl htl]; omega)
      cases e2
      have hlr := HROW.out tl htl
      have hx1' : wr.cell? (ad.add tl) = some (.slice (some ad2) l.length cc1) := by rw [← hlr]; exact hx1
      have hx2' : wr.cell? (ad2.add i) = some (.int .i64 (rd (rd_Ls2 l tl) i)) := hx2
      clear hx1 hx2 hi1 hR hl1 hlr
      go_wp2
      go_quiet (fail)
      go_wp2
      · have w1 : bits BinOp.and IntKind.i64 (d / 2 ^ i) 1 = 1 := by assumption
        have hE := Aside0.mk (hsucc.out.trans (by rw [show itm l fin ⟨d, tl, ts⟩ i = [] from if_pos (.inl w1), List.append_nil]))
        exact ⟨⟨i + 1, by go_num, by omega, ⟨by rw [hE.out]; exact HST.out _ _ _ HI.out (pw_below_drewN (Below.refl _ _) _)⟩, ⟨HFR.out.trans (Fr.of_below (pw_below_drewN (Below.refl _ _) _))⟩, ⟨BK.out⟩⟩, by simp [intOf]; omega⟩
      · have w1 : ¬ bits BinOp.and IntKind.i64 (d / 2 ^ i) 1 = 1 := by assumption
        have w2 : 0 ≤ fin := by assumption
        have w3 : (bits BinOp.and IntKind.i64 (d / 2 ^ i) 1 == 1) = true ∨ (!(↑i == fin) == (bits BinOp.or IntKind.i64 d (wrap64 (2 ^ i)) == wrap64 (wrap64 (2 ^ l.length) - 1))) = true := by assumption
        have w4 : skipb l.length fin d i := .inr ⟨w2, fun e => by
          rcases w3 with h | h
          · exact w1 (by simpa using h)
          · unfold setb full at e; rw [e] at h; simp at h⟩
        have hE := Aside0.mk (hsucc.out.trans (by rw [show itm l fin ⟨d, tl, ts⟩ i = [] from if_pos w4, List.append_nil]))
        exact ⟨⟨i + 1, by go_num, by omega, ⟨by rw [hE.out]; exact HST.out _ _ _ HI.out (pw_below_drewN (Below.refl _ _) _)⟩, ⟨HFR.out.trans (Fr.of_below (pw_below_drewN (Below.refl _ _) _))⟩, ⟨BK.out⟩⟩, by simp [intOf]; omega⟩
      all_goals
        have w1 : ¬ bits BinOp.and IntKind.i64 (d / 2 ^ i) 1 = 1 := by assumption
        have hns : ¬ skipb l.length fin d i := by
          rintro (h | ⟨h0, h⟩)
          · exact w1 h
          · first
              | (have w3 : (bits BinOp.and IntKind.i64 (d / 2 ^ i) 1 == 1) = false ∧ (!(↑i == fin) == (bits BinOp.or IntKind.i64 d (wrap64 (2 ^ i)) == wrap64 (wrap64 (2 ^ l.length) - 1))) = false := by assumption
                 apply h
                 have h3 := w3.2
                 unfold setb full
                 revert h3
                 generalize ((i : Int) == fin) = x
                 generalize (bits BinOp.or IntKind.i64 d (wrap64 (2 ^ i)) == wrap64 (wrap64 (2 ^ l.length) - 1)) = y
                 revert x y
                 decide)
              | (have h4 : fin < 0 := by assumption
                 omega)
        have hE := Aside0.mk (hsucc.out.trans (by rw [show itm l fin ⟨d, tl, ts⟩ i = _ from if_neg hns]))
        obtain ⟨post, hSp⟩ : ∃ post, Aside0 (itms l fin ⟨d, tl, ts⟩ l.length = itms l fin ⟨d, tl, ts⟩ i ++ ⟨i, rd (rd_Ls2 l tl) i, ⟨setb d i, i, ts⟩⟩ :: ((if 0 < ts then [⟨i, 0, ⟨setb d i, i, ts - 1⟩⟩] else []) ++ post)) := by
          obtain ⟨post, e⟩ := itms_split l fin ⟨d, tl, ts⟩ ci
          rw [show itm l fin ⟨d, tl, ts⟩ i = _ from if_neg hns] at e
          exact ⟨post, ⟨e⟩⟩
        refine start_ (n := 26) (S := fun w' => w'.cell? ⟨gp, 0, none⟩ = some (.pointer (some ⟨gb, 0, none⟩)) ∧ w'.cell? ⟨gb, 0, none⟩ = some (.slice (some ad) l.length c) ∧ w'.cell? ⟨gt, 0, none⟩ = some (.int .i64 d) ∧ w'.cell? ⟨gt, 1, none⟩ = some (.int .i64 tl) ∧ w'.cell? ⟨gt, 2, none⟩ = some (.int .i64 ts) ∧ w'.cell? (ad.add tl) = some (.slice (some ad2) l.length cc1) ∧ w'.cell? (ad2.add i) = some (.int .i64 (rd (rd_Ls2 l tl) i))) (ds := [25]) #[false, false, false, false, false, false, false, false, false, false, false, false, false, false, false, false, false, false, false, false, false, false, false, false, false, false] (by kernel_rfl) rfl rfl ⟨hc0, hc2, hd0, hd1, hd2, hx1', hx2'⟩ (fun hHeld => ?_)
        refine pure_ (i := 0) (N := some 53) (v := ?_) (a' := ?_) #[true, false, false, false, false, false, false, false, false, false, false, false, false, false, false, false, false, false, false, false, false, false, false, false, false, false] rfl rfl (by kernel_rfl) (fun _ _ _ h => h) (Or.inl ⟨by rfl, ?_⟩) ?_ ?_
        rotate_left
        · intro w'
          go_simp
          with_reducible rfl
        rotate_left
        · simp only [Act.put, List.setIfInBounds_toArray, List.set_cons_zero, List.set_cons_succ, i64_w, i32_w]
          rfl
        refine pure_ (i := 1) (N := some 54) (v := ?_) (a' := ?_) #[true, true, false, false, false, false, false, false, false, false, false, false, false, false, false, false, false, false, false, false, false, false, false, false, false, false] rfl rfl (by kernel_rfl) (fun _ _ _ h => h) (Or.inl ⟨by rfl, ?_⟩) ?_ ?_
        rotate_left
        · intro w'
          go_simp
          with_reducible rfl
        rotate_left
        · simp only [Act.put, List.setIfInBounds_toArray, List.set_cons_zero, List.set_cons_succ, i64_w, i32_w]
          rfl
        refine pure_ (i := 2) (N := some 55) (v := ?_) (a' := ?_) #[true, true, true, false, false, false, false, false, false, false, false, false, false, false, false, false, false, false, false, false, false, false, false, false, false, false] rfl rfl (by kernel_rfl) (fun _ _ _ h => h) (Or.inl ⟨by rfl, ?_⟩) ?_ ?_
        rotate_left
        · intro w'
          go_simp
          with_reducible rfl
        rotate_left
        · simp only [Act.put, List.setIfInBounds_toArray, List.set_cons_zero, List.set_cons_succ, i64_w, i32_w]
          rfl
        refine pure_ (i := 3) (N := some 56) (v := ?_) (a' := ?_) #[true, true, true, true, false, false, false, false, false, false, false, false, false, false, false, false, false, false, false, false, false, false, false, false, false, false] rfl rfl (by kernel_rfl) (fun _ _ _ h => h) (Or.inl ⟨by rfl, ?_⟩) ?_ ?_
        rotate_left
        · intro w'
          go_simp
          with_reducible rfl
        rotate_left
        · simp only [Act.put, List.setIfInBounds_toArray, List.set_cons_zero, List.set_cons_succ, i64_w, i32_w]
          rfl
        refine pure_ (i := 4) (N := some 57) (v := ?_) (a' := ?_) #[true, true, true, true, true, false, false, false, false, false, false, false, false, false, false, false, false, false, false, false, false, false, false, false, false, false] rfl rfl (by kernel_rfl) (fun _ _ _ h => h) (Or.inl ⟨by rfl, ?_⟩) ?_ ?_
        rotate_left
        · intro w'
          go_simp
          with_reducible rfl
        rotate_left
        · simp only [Act.put, List.setIfInBounds_toArray, List.set_cons_zero, List.set_cons_succ, i64_w, i32_w]
          rfl
        refine pure_ (i := 9) (N := some 62) (v := ?_) (a' := ?_) #[true, true, true, true, true, false, false, false, false, true, false, false, false, false, false, false, false, false, false, false, false, false, false, false, false, false] rfl rfl (by kernel_rfl) (fun _ _ _ h => h) (Or.inl ⟨by rfl, ?_⟩) ?_ ?_
        rotate_left
        · intro w'
          go_simp
          with_reducible rfl
        rotate_left
        · simp only [Act.put, List.setIfInBounds_toArray, List.set_cons_zero, List.set_cons_succ, i64_w, i32_w]
          rfl
        refine pure_ (i := 13) (N := some 66) (v := ?_) (a' := ?_) #[true, true, true, true, true, false, false, false, false, true, false, false, false, true, false, false, false, false, false, false, false, false, false, false, false, false] rfl rfl (by kernel_rfl) (fun _ _ _ h => h) (Or.inl ⟨by rfl, ?_⟩) ?_ ?_
        rotate_left
        · intro w'
          go_simp
          with_reducible rfl
        rotate_left
        · simp only [Act.put, List.setIfInBounds_toArray, List.set_cons_zero, List.set_cons_succ, i64_w, i32_w]
          rfl
        refine pure_ (i := 16) (N := some 69) (v := ?_) (a' := ?_) #[true, true, true, true, true, false, false, false, false, true, false, false, false, true, false, false, true, false, false, false, false, false, false, false, false, false] rfl rfl (by kernel_rfl) (fun _ _ _ h => h) (Or.inl ⟨by rfl, ?_⟩) ?_ ?_
        rotate_left
        · intro w'
          go_simp
          with_reducible rfl
        rotate_left
        · simp only [Act.put, List.setIfInBounds_toArray, List.set_cons_zero, List.set_cons_succ, i64_w, i32_w]
          rfl
        refine pure_ (i := 18) (N := some 71) (v := ?_) (a' := ?_) #[true, true, true, true, true, false, false, false, false, true, false, false, false, true, false, false, true, false, true, false, false, false, false, false, false, false] rfl rfl (by kernel_rfl) (fun _ _ _ h => h) (Or.inl ⟨by rfl, ?_⟩) ?_ ?_
        rotate_left
        · intro w'
          go_simp
          with_reducible rfl
        rotate_left
        · simp only [Act.put, List.setIfInBounds_toArray, List.set_cons_zero, List.set_cons_succ, i64_w, i32_w]
          rfl
        refine pure_ (i := 19) (N := some 72) (v := ?_) (a' := ?_) #[true, true, true, true, true, false, false, false, false, true, false, false, false, true, false, false, true, false, true, true, false, false, false, false, false, false] rfl rfl (by kernel_rfl) (fun _ _ _ h => h) (Or.inl ⟨by rfl, ?_⟩) ?_ ?_
        rotate_left
        · intro w'
          go_simp
          with_reducible rfl
        rotate_left
        · simp only [Act.put, List.setIfInBounds_toArray, List.set_cons_zero, List.set_cons_succ, i64_w, i32_w]
          rfl
        refine pure_ (i := 21) (N := some 74) (v := ?_) (a' := ?_) #[true, true, true, true, true, false, false, false, false, true, false, false, false, true, false, false, true, false, true, true, false, true, false, false, false, false] rfl rfl (by kernel_rfl) (fun _ _ _ h => h) (Or.inl ⟨by rfl, ?_⟩) ?_ ?_
        rotate_left
        · intro w'
          go_simp
          with_reducible rfl
        rotate_left
        · simp only [Act.put, List.setIfInBounds_toArray, List.set_cons_zero, List.set_cons_succ, i64_w, i32_w]
          rfl
        refine pure_ (i := 22) (N := some 75) (v := ?_) (a' := ?_) #[true, true, true, true, true, false, false, false, false, true, false, false, false, true, false, false, true, false, true, true, false, true, true, false, false, false] rfl rfl (by kernel_rfl) (fun _ _ _ h => h) (Or.inl ⟨by rfl, ?_⟩) ?_ ?_
        rotate_left
        · intro w'
          go_simp
          with_reducible rfl
        rotate_left
        · simp only [Act.put, List.setIfInBounds_toArray, List.set_cons_zero, List.set_cons_succ, i64_w, i32_w]
          rfl
        refine take_ (i := 5) (N := some 58) (v := ?_) (a' := ?_) #[true, true, true, true, true, true, false, false, false, true, false, false, false, true, false, false, true, false, true, true, false, true, true, false, false, false] rfl rfl (by kernel_rfl) (fun _ _ _ h => h) (Or.inl ⟨by rfl, ?_⟩) hHeld ?_ ?_
        rotate_left
        · rintro w' ⟨s0, s1, s2, s3, s4, s5, s6⟩
          go_simp
          with_reducible rfl
        rotate_left
        · simp only [Act.put, List.setIfInBounds_toArray, List.set_cons_zero, List.set_cons_succ, i64_w, i32_w]
          rfl
        refine pure_ (i := 6) (N := some 59) (v := ?_) (a' := ?_) #[true, true, true, true, true, true, true, false, false, true, false, false, false, true, false, false, true, false, true, true, false, true, true, false, false, false] rfl rfl (by kernel_rfl) (fun _ _ _ h => h) (Or.inl ⟨by rfl, ?_⟩) ?_ ?_
        rotate_left
        · intro w'
          go_simp
          with_reducible rfl
        rotate_left
        · simp only [Act.put, List.setIfInBounds_toArray, List.set_cons_zero, List.set_cons_succ, i64_w, i32_w]
          rfl
        refine pure_ (i := 7) (N := some 60) (v := ?_) (a' := ?_) #[true, true, true, true, true, true, true, true, false, true, false, false, false, true, false, false, true, false, true, true, false, true, true, false, false, false] rfl rfl (by kernel_rfl) (fun _ _ _ h => h) (Or.inl ⟨by rfl, ?_⟩) ?_ ?_
        rotate_left
        · intro w'
          go_simp
          with_reducible rfl
        rotate_left
        · simp only [Act.put, List.setIfInBounds_toArray, List.set_cons_zero, List.set_cons_succ, i64_w, i32_w]
          rfl
        refine take_ (i := 8) (N := some 61) (v := ?_) (a' := ?_) #[true, true, true, true, true, true, true, true, true, true, false, false, false, true, false, false, true, false, true, true, false, true, true, false, false, false] rfl rfl (by kernel_rfl) (fun _ _ _ h => h) (Or.inl ⟨by rfl, ?_⟩) hHeld ?_ ?_
        rotate_left
        · rintro w' ⟨s0, s1, s2, s3, s4, s5, s6⟩
          go_simp
          with_reducible rfl
        rotate_left
        · simp only [Act.put, List.setIfInBounds_toArray, List.set_cons_zero, List.set_cons_succ, i64_w, i32_w]
          rfl
        refine take_ (i := 10) (N := some 63) (v := ?_) (a' := ?_) #[true, true, true, true, true, true, true, true, true, true, true, false, false, true, false, false, true, false, true, true, false, true, true, false, false, false] rfl rfl (by kernel_rfl) (fun _ _ _ h => h) (Or.inl ⟨by rfl, ?_⟩) hHeld ?_ ?_
        rotate_left
        · rintro w' ⟨s0, s1, s2, s3, s4, s5, s6⟩
          go_simp
          with_reducible rfl
        rotate_left
        · simp only [Act.put, List.setIfInBounds_toArray, List.set_cons_zero, List.set_cons_succ, i64_w, i32_w]
          rfl
        refine pure_ (i := 11) (N := some 64) (v := ?_) (a' := ?_) #[true, true, true, true, true, true, true, true, true, true, true, true, false, true, false, false, true, false, true, true, false, true, true, false, false, false] rfl rfl (by kernel_rfl) (fun _ _ _ h => h) (Or.inl ⟨by rfl, ?_⟩) ?_ ?_
        rotate_left
        · intro w'
          go_simp
          with_reducible rfl
        rotate_left
        · simp only [Act.put, List.setIfInBounds_toArray, List.set_cons_zero, List.set_cons_succ, i64_w, i32_w]
          rfl
        refine take_ (i := 12) (N := some 65) (v := ?_) (a' := ?_) #[true, true, true, true, true, true, true, true, true, true, true, true, true, true, false, false, true, false, true, true, false, true, true, false, false, false] rfl rfl (by kernel_rfl) (fun _ _ _ h => h) (Or.inl ⟨by rfl, ?_⟩) hHeld ?_ ?_
        rotate_left
        · rintro w' ⟨s0, s1, s2, s3, s4, s5, s6⟩
          go_simp
          with_reducible rfl
        rotate_left
        · simp only [Act.put, List.setIfInBounds_toArray, List.set_cons_zero, List.set_cons_succ, i64_w, i32_w]
          rfl
        refine pure_ (i := 14) (N := some 67) (v := ?_) (a' := ?_) #[true, true, true, true, true, true, true, true, true, true, true, true, true, true, true, false, true, false, true, true, false, true, true, false, false, false] rfl rfl (by kernel_rfl) (fun _ _ _ h => h) (Or.inl ⟨by rfl, ?_⟩) ?_ ?_
        rotate_left
        · intro w'
          go_simp
          with_reducible rfl
        rotate_left
        · simp only [Act.put, List.setIfInBounds_toArray, List.set_cons_zero, List.set_cons_succ, i64_w, i32_w]
          rfl
        refine take_ (i := 15) (N := some 68) (v := ?_) (a' := ?_) #[true, true, true, true, true, true, true, true, true, true, true, true, true, true, true, true, true, false, true, true, false, true, true, false, false, false] rfl rfl (by kernel_rfl) (fun _ _ _ h => h) (Or.inl ⟨by rfl, ?_⟩) hHeld ?_ ?_
        rotate_left
        · rintro w' ⟨s0, s1, s2, s3, s4, s5, s6⟩
          go_simp
          with_reducible rfl
        rotate_left
        · simp only [Act.put, List.setIfInBounds_toArray, List.set_cons_zero, List.set_cons_succ, i64_w, i32_w]
          rfl
        refine take_ (i := 17) (N := some 70) (v := ?_) (a' := ?_) #[true, true, true, true, true, true, true, true, true, true, true, true, true, true, true, true, true, true, true, true, false, true, true, false, false, false] rfl rfl (by kernel_rfl) (fun _ _ _ h => h) (Or.inl ⟨by rfl, ?_⟩) hHeld ?_ ?_
        rotate_left
        · rintro w' ⟨s0, s1, s2, s3, s4, s5, s6⟩
          go_simp
          with_reducible rfl
        rotate_left
        · simp only [Act.put, List.setIfInBounds_toArray, List.set_cons_zero, List.set_cons_succ, i64_w, i32_w]
          rfl
        refine pure_ (i := 20) (N := some 73) (v := ?_) (a' := ?_) #[true, true, true, true, true, true, true, true, true, true, true, true, true, true, true, true, true, true, true, true, true, true, true, false, false, false] rfl rfl (by kernel_rfl) (fun _ _ _ h => h) (Or.inl ⟨by rfl, ?_⟩) ?_ ?_
        rotate_left
        · intro w'
          go_simp
          with_reducible rfl
        rotate_left
        · simp only [Act.put, List.setIfInBounds_toArray, List.set_cons_zero, List.set_cons_succ, i64_w, i32_w]
          rfl
        refine take_ (i := 23) (N := some 76) (v := ?_) (a' := ?_) #[true, true, true, true, true, true, true, true, true, true, true, true, true, true, true, true, true, true, true, true, true, true, true, true, false, false] rfl rfl (by kernel_rfl) (fun _ _ _ h => h) (Or.inl ⟨by rfl, ?_⟩) hHeld ?_ ?_
        rotate_left
        · rintro w' ⟨s0, s1, s2, s3, s4, s5, s6⟩
          go_simp
          with_reducible rfl
        rotate_left
        · simp only [Act.put, List.setIfInBounds_toArray, List.set_cons_zero, List.set_cons_succ, i64_w, i32_w]
          rfl
        refine pure_ (i := 24) (N := some 77) (v := ?_) (a' := ?_) #[true, true, true, true, true, true, true, true, true, true, true, true, true, true, true, true, true, true, true, true, true, true, true, true, true, false] rfl rfl (by kernel_rfl) (fun _ _ _ h => h) (Or.inl ⟨by rfl, ?_⟩) ?_ ?_
        rotate_left
        · intro w'
          go_simp
          with_reducible rfl
        rotate_left
        · simp only [Act.put, List.setIfInBounds_toArray, List.set_cons_zero, List.set_cons_succ, i64_w, i32_w]
          rfl
        refine last_ (i := 25) (N := some 78) #[true, true, true, true, true, true, true, true, true, true, true, true, true, true, true, true, true, true, true, true, true, true, true, true, true, true] rfl rfl (by kernel_rfl) (by decide) (fun K hK => ?_)
        refine goesC_ hf hnm hbd #[.int .i64 i, .int .i64 (rd (rd_Ls2 l tl) i), T3.v ⟨setb d i, i, ts⟩] caps _ (by rfl) rfl rfl rfl (by simp only [List.map_toArray, List.map_cons, List.map_nil]; rfl) rfl ?_
        refine (HDO.out (itms l fin ⟨d, tl, ts⟩ i) ⟨i, rd (rd_Ls2 l tl) i, ⟨setb d i, i, ts⟩⟩ ((if 0 < ts then [⟨i, 0, ⟨setb d i, i, ts - 1⟩⟩] else []) ++ post) _ hSp.out (HST.out _ _ _ HI.out (Below.drew (pw_below_drewN (Below.refl _ _) _)))).mono ?_
        rintro e w3 ⟨rfl, hI3, hF3⟩
        refine ⟨_, rfl, ?_⟩
        have HI3 := Aside0.mk hI3
        have HF3 := Aside0.mk hF3
        clear hI3 hF3
        refine hK.out _ _ ?_
        clear hK K
        refine norm_ (a' := ?_) ?_ ?_
        rotate_left
        · show Act.put _ (some 78) _ = _
          simp only [Act.put, List.setIfInBounds_toArray, List.set_cons_zero, List.set_cons_succ, i64_w, i32_w]
          rfl
        refine done_ (by kernel_rfl) ?_

        have HFQ := Aside0.mk ((Fr.of_below (Below.drew (pw_below_drewN (Below.refl wr.heap.size wr) _))).trans HF3.out)
        have BK3 := Aside0.mk (HFQ.out.blk BK.out hgt.out)
        have HFR3 := Aside0.mk (HFR.out.trans HFQ.out)
        clear hc0 hc1 hc2 hd0 hd1 hd2 hx1' hx2' HI HFR BK HF3 HFQ
        obtain ⟨hc0, hc1, hc2, hd0, hd1, hd2⟩ := Rd.mk_ (HPL.out _ _ HI3.out) BK3.out
        go_wp2
        · have hts1 : 0 < ts := by assumption
          have hwr : wrap64 (ts - 1) = ts - 1 := by first | exact wrap64_small (by omega) (by omega) | (unfold wrap64; omega)
          have hS2 : Aside0 (itms l fin ⟨d, tl, ts⟩ l.length = (itms l fin ⟨d, tl, ts⟩ i ++ [⟨i, rd (rd_Ls2 l tl) i, ⟨setb d i, i, ts⟩⟩]) ++ ⟨i, 0, ⟨setb d i, i, ts - 1⟩⟩ :: post) := by
            refine ⟨?_⟩
            have e := hSp.out
            rw [if_pos hts1] at e
            rw [List.append_assoc]
            exact e
          have hE2 : Aside0 (itms l fin ⟨d, tl, ts⟩ (i + 1) = (itms l fin ⟨d, tl, ts⟩ i ++ [⟨i, rd (rd_Ls2 l tl) i, ⟨setb d i, i, ts⟩⟩]) ++ [⟨i, 0, ⟨setb d i, i, ts - 1⟩⟩]) := by
            refine ⟨?_⟩
            have e := hE.out
            rw [if_pos hts1] at e
            rw [List.append_assoc]
            exact e
          refine start_ (n := 13) (S := fun w' => w'.cell? ⟨gt, 0, none⟩ = some (.int .i64 d) ∧ w'.cell? ⟨gt, 2, none⟩ = some (.int .i64 ts)) (ds := [12]) #[false, false, false, false, false, false, false, false, false, false, false, false, false] (by kernel_rfl) rfl rfl ⟨hd0, hd2⟩ (fun hHeld => ?_)
          refine pure_ (i := 0) (N := some 82) (v := ?_) (a' := ?_) #[true, false, false, false, false, false, false, false, false, false, false, false, false] rfl rfl (by kernel_rfl) (fun _ _ _ h => h) (Or.inl ⟨by rfl, ?_⟩) ?_ ?_
          rotate_left
          · intro w'
            go_simp
            with_reducible rfl
          rotate_left
          · simp only [Act.put, List.setIfInBounds_toArray, List.set_cons_zero, List.set_cons_succ, i64_w, i32_w]
            rfl
          refine pure_ (i := 1) (N := some 83) (v := ?_) (a' := ?_) #[true, true, false, false, false, false, false, false, false, false, false, false, false] rfl rfl (by kernel_rfl) (fun _ _ _ h => h) (Or.inl ⟨by rfl, ?_⟩) ?_ ?_
          rotate_left
          · intro w'
            go_simp
            with_reducible rfl
          rotate_left
          · simp only [Act.put, List.setIfInBounds_toArray, List.set_cons_zero, List.set_cons_succ, i64_w, i32_w]
            rfl
          refine pure_ (i := 2) (N := some 84) (v := ?_) (a' := ?_) #[true, true, true, false, false, false, false, false, false, false, false, false, false] rfl rfl (by kernel_rfl) (fun _ _ _ h => h) (Or.inl ⟨by rfl, ?_⟩) ?_ ?_
          rotate_left
          · intro w'
            go_simp
            with_reducible rfl
          rotate_left
          · simp only [Act.put, List.setIfInBounds_toArray, List.set_cons_zero, List.set_cons_succ, i64_w, i32_w]
            rfl
          refine pure_ (i := 4) (N := some 86) (v := ?_) (a' := ?_) #[true, true, true, false, true, false, false, false, false, false, false, false, false] rfl rfl (by kernel_rfl) (fun _ _ _ h => h) (Or.inl ⟨by rfl, ?_⟩) ?_ ?_
          rotate_left
          · intro w'
            go_simp
            with_reducible rfl
          rotate_left
          · simp only [Act.put, List.setIfInBounds_toArray, List.set_cons_zero, List.set_cons_succ, i64_w, i32_w]
            rfl
          refine pure_ (i := 5) (N := some 87) (v := ?_) (a' := ?_) #[true, true, true, false, true, true, false, false, false, false, false, false, false] rfl rfl (by kernel_rfl) (fun _ _ _ h => h) (Or.inl ⟨by rfl, ?_⟩) ?_ ?_
          rotate_left
          · intro w'
            go_simp
            with_reducible rfl
          rotate_left
          · simp only [Act.put, List.setIfInBounds_toArray, List.set_cons_zero, List.set_cons_succ, i64_w, i32_w]
            rfl
          refine pure_ (i := 7) (N := some 89) (v := ?_) (a' := ?_) #[true, true, true, false, true, true, false, true, false, false, false, false, false] rfl rfl (by kernel_rfl) (fun _ _ _ h => h) (Or.inl ⟨by rfl, ?_⟩) ?_ ?_
          rotate_left
          · intro w'
            go_simp
            with_reducible rfl
          rotate_left
          · simp only [Act.put, List.setIfInBounds_toArray, List.set_cons_zero, List.set_cons_succ, i64_w, i32_w]
            rfl
          refine pure_ (i := 8) (N := some 90) (v := ?_) (a' := ?_) #[true, true, true, false, true, true, false, true, true, false, false, false, false] rfl rfl (by kernel_rfl) (fun _ _ _ h => h) (Or.inl ⟨by rfl, ?_⟩) ?_ ?_
          rotate_left
          · intro w'
            go_simp
            with_reducible rfl
          rotate_left
          · simp only [Act.put, List.setIfInBounds_toArray, List.set_cons_zero, List.set_cons_succ, i64_w, i32_w]
            rfl
          refine take_ (i := 3) (N := some 85) (v := ?_) (a' := ?_) #[true, true, true, true, true, true, false, true, true, false, false, false, false] rfl rfl (by kernel_rfl) (fun _ _ _ h => h) (Or.inl ⟨by rfl, ?_⟩) hHeld ?_ ?_
          rotate_left
          · rintro w' ⟨s0, s1⟩
            go_simp
            with_reducible rfl
          rotate_left
          · simp only [Act.put, List.setIfInBounds_toArray, List.set_cons_zero, List.set_cons_succ, i64_w, i32_w]
            rfl
          refine pure_ (i := 6) (N := some 88) (v := ?_) (a' := ?_) #[true, true, true, true, true, true, true, true, true, false, false, false, false] rfl rfl (by kernel_rfl) (fun _ _ _ h => h) (Or.inl ⟨by rfl, ?_⟩) ?_ ?_
          rotate_left
          · intro w'
            go_simp
            with_reducible rfl
          rotate_left
          · simp only [Act.put, List.setIfInBounds_toArray, List.set_cons_zero, List.set_cons_succ, i64_w, i32_w]
            rfl
          refine take_ (i := 9) (N := some 91) (v := ?_) (a' := ?_) #[true, true, true, true, true, true, true, true, true, true, false, false, false] rfl rfl (by kernel_rfl) (fun _ _ _ h => h) (Or.inl ⟨by rfl, ?_⟩) hHeld ?_ ?_
          rotate_left
          · rintro w' ⟨s0, s1⟩
            go_simp
            with_reducible rfl
          rotate_left
          · simp only [Act.put, List.setIfInBounds_toArray, List.set_cons_zero, List.set_cons_succ, i64_w, i32_w]
            rfl
          refine pure_ (i := 10) (N := some 92) (v := ?_) (a' := ?_) #[true, true, true, true, true, true, true, true, true, true, true, false, false] rfl rfl (by kernel_rfl) (fun _ _ _ h => h) (Or.inl ⟨by rfl, ?_⟩) ?_ ?_
          rotate_left
          · intro w'
            go_simp
            with_reducible rfl
          rotate_left
          · simp only [Act.put, List.setIfInBounds_toArray, List.set_cons_zero, List.set_cons_succ, i64_w, i32_w]
            rfl
          refine pure_ (i := 11) (N := some 93) (v := ?_) (a' := ?_) #[true, true, true, true, true, true, true, true, true, true, true, true, false] rfl rfl (by kernel_rfl) (fun _ _ _ h => h) (Or.inl ⟨by rfl, ?_⟩) ?_ ?_
          rotate_left
          · intro w'
            go_simp
            with_reducible rfl
          rotate_left
          · simp only [Act.put, List.setIfInBounds_toArray, List.set_cons_zero, List.set_cons_succ, i64_w, i32_w]
            rfl
          refine last_ (i := 12) (N := some 94) #[true, true, true, true, true, true, true, true, true, true, true, true, true] rfl rfl (by kernel_rfl) (by decide) (fun K hK => ?_)
          refine goesC_ hf hnm hbd #[.int .i64 i, .int .i64 0, T3.v ⟨setb d i, i, wrap64 (ts - 1)⟩] caps _ (by rfl) rfl rfl rfl (by simp only [List.map_toArray, List.map_cons, List.map_nil, Act.eval]; go_simp; rfl) rfl ?_
          rw [hwr]
          refine (HDO.out (itms l fin ⟨d, tl, ts⟩ i ++ [⟨i, rd (rd_Ls2 l tl) i, ⟨setb d i, i, ts⟩⟩]) ⟨i, 0, ⟨setb d i, i, ts - 1⟩⟩ post _ hS2.out (HST.out _ _ _ HI3.out (Below.drew (Below.refl _ _)))).mono ?_
          rintro e w4 ⟨rfl, hI4, hF4⟩
          refine ⟨_, rfl, ?_⟩
          have HI4 := Aside0.mk hI4
          have HF4 := Aside0.mk hF4
          clear hI4 hF4
          refine hK.out _ _ ?_
          clear hK K
          refine norm_ (a' := ?_) ?_ ?_
          rotate_left
          · show Act.put _ (some 94) _ = _
            simp only [Act.put, List.setIfInBounds_toArray, List.set_cons_zero, List.set_cons_succ, i64_w, i32_w]
            rfl
          refine done_ (by kernel_rfl) ?_

          have HFQ := Aside0.mk ((Fr.of_below (Below.drew (Below.refl w3.heap.size w3))).trans HF4.out)
          have BK4 := Aside0.mk (HFQ.out.blk BK3.out hgt.out)
          have HFR4 := Aside0.mk (HFR3.out.trans HFQ.out)
          clear hc0 hc1 hc2 hd0 hd1 hd2 HI3 HFR3 BK3 HF4 HFQ
          go_wp2
          exact ⟨⟨i + 1, by go_num, by omega, ⟨by rw [hE2.out]; exact HI4.out⟩, ⟨HFR4.out⟩, ⟨BK4.out⟩⟩, by simp [intOf]; omega⟩
        · have hts1 : ¬ 0 < ts := by
            have h : ts ≤ 0 := by assumption
            omega
          have hE2 : Aside0 (itms l fin ⟨d, tl, ts⟩ (i + 1) = itms l fin ⟨d, tl, ts⟩ i ++ [⟨i, rd (rd_Ls2 l tl) i, ⟨setb d i, i, ts⟩⟩]) := by
            refine ⟨?_⟩
            have e := hE.out
            rw [if_neg hts1] at e
            exact e
          exact ⟨⟨i + 1, by go_num, by omega, ⟨by rw [hE2.out]; exact HI3.out⟩, ⟨HFR3.out⟩, ⟨BK3.out⟩⟩, by simp [intOf]; omega⟩
    · obtain rfl : i = l.length := by omega
      go_wp2
      first | go_end0 | ((try simp only [Exit.inBlock, Exit.then]); refine bodyPost_ret (results_none rfl _ _ _) rfl ?_) | (refine ⟨rfl, _, results_none rfl _ _ _, ?_⟩)
      exact ⟨rfl, HI.out, HFR.out⟩
end Go.Proofs.Ytaapbnhggfmlpaa.P
end
section
set_option linter.unusedVariables false
namespace Go.Proofs.Ytaapbnhggfmlpaa.P
open Go.RowKit Go.Proofs.YtaapbnhggfmlpaaW.PrintWords Go.Proofs.YtaapbnhggfmlpaaW.PrintLast Go.Proofs.YtaapbnhggfmlpaaW.PrintMore
open Go.Proofs.Ytaapbnhggfmlpaa.M Go.Proofs.Ytaapbnhggfmlpaa.A
structure PW (w0 : World) (gp gb gm : Nat) (A : Option Addr) (c : Nat) (l : List (List Int)) (fin : Int) (w : World) : Prop where
  bl : Below w0.heap.size w0 w
  ge : w0.heap.size ≤ gm
  np : gp ≠ gm
  nb : gb ≠ gm
  p : w.heap[gp]? = some (.cells #[.pointer (some ⟨gb, 0, none⟩), .int .i64 fin, .map (some gm)] 113 (0, 0))
  b : w.heap[gb]? = some (.cells #[.slice A l.length c] 44 (0, 0))
  r : Kd.C (Kd.slice 2 (Kd.int .i64)) w0 A l.length l
section
variable {w0 w w' : World} {gp gb gm : Nat} {A : Option Addr} {c : Nat} {l : List (List Int)} {fin : Int}
theorem PW.pl (h : PW w0 gp gb gm A c l fin w) : PL w gp gb gm A c l fin := ⟨h.p, h.b, Kd.C_below h.r h.bl⟩
/-- Only blocks of F, of which none is old nor the planner's, turn. -/
theorem PW.fr {F : Nat → Prop} (h : PW w0 gp gb gm A c l fin w) (hf : Fr F w w') (hF : ∀ k, F k → w0.heap.size ≤ k) (hp : ¬ F gp) (hb : ¬ F gb) : PW w0 gp gb gm A c l fin w' :=
  ⟨Fr.below h.bl hf h.bl.size hF, h.ge, h.np, h.nb, hf.blk h.p hp, hf.blk h.b hb, h.r⟩
theorem PW.below (h : PW w0 gp gb gm A c l fin w) (hb : Below w.heap.size w w') : PW w0 gp gb gm A c l fin w' :=
  h.fr (F := fun _ => False) (Fr.of_below hb) (fun _ hf => hf.elim) (fun hf => hf) (fun hf => hf)
end
def Mem (l : List (List Int)) (fin : Int) (gm : Nat) (w : World) : Prop :=
  ∃ (ks : List T3) (tb : T3 → Option Int), ks.Nodup ∧ (∀ t, tb t = none ↔ t ∉ ks) ∧ (∀ t ∈ ks, Tk l.length t ∧ tb t = some (lf l fin t)) ∧ TM w gm ks.length tb
section
variable {w w' : World} {gm : Nat} {l : List (List Int)} {fin : Int}
theorem Mem.lt (h : Mem l fin gm w) : gm < w.heap.size := by
  obtain ⟨ks, tb, _, _, _, h⟩ := h
  exact h.lt
theorem Mem.heap (h : Mem l fin gm w) (he : w'.heap[gm]? = w.heap[gm]?) : Mem l fin gm w' := by
  obtain ⟨ks, tb, a, b, c, h⟩ := h
  exact ⟨ks, tb, a, b, c, h.heap he⟩
theorem Mem.below (h : Mem l fin gm w) (hb : Below w.heap.size w w') : Mem l fin gm w' := h.heap (hb.block _ h.lt)
theorem Mem.made (w : World) (l : List (List Int)) (fin : Int) : Mem l fin w.heap.size (w.alloc (.map #[] 0)) :=
  ⟨[], fun _ => none, List.nodup_nil, fun t => by simp, fun t (ht : t ∈ ([] : List T3)) => absurd ht (by simp), TM.made w⟩
theorem Mem.fr {F : Nat → Prop} (h : Mem l fin gm w) (hf : Fr F w w') (hF : ¬ F gm) : Mem l fin gm w' := h.heap (hf.block _ h.lt hF)
end
theorem Fr.set_ {F : Nat → Prop} {w w1 : World} (h : Fr F w w1) {a : Addr} (ha : F a.block) (u : Value) : Fr F w (w1.setCell a u) := by
  have hb := Below.setCell (B := 0) (Below.refl 0 w1) (p := a) (Nat.zero_le _) u
  exact h.trans ⟨hb.os, hb.tape, hb.output, hb.size, fun i hi hn => Below.heap_setCell w1 a u i (fun e => hn (e ▸ ha))⟩
/-- Distinct tasks are few. -/
theorem nat_few : ∀ (N : Nat) (xs : List Nat), xs.Nodup → (∀ x ∈ xs, x < N) → xs.length ≤ N := by
  intro N
  induction N with
  | zero =>
    intro xs _ h
    cases xs with
    | nil => simp
    | cons x xs => exact absurd (h x (List.mem_cons_self ..)) (by omega)
  | succ N ih =>
    intro xs hd h
    have h1 : (xs.erase N).length ≤ N := ih (xs.erase N) (hd.erase N) fun x hx => by
      have h2 := h x (List.mem_of_mem_erase hx)
      have h3 : x ≠ N := fun e => by
        subst e
        exact (hd.not_mem_erase) hx
      omega
    have := List.length_erase (a := N) (l := xs)
    split at this <;> omega
theorem tk_few {n : Nat} (hn : n ≤ 9) {ks : List T3} (hd : ks.Nodup) (h : ∀ t ∈ ks, Tk n t) : ks.length ≤ 51200 := by
  have inj : ∀ t ∈ ks, ∀ u ∈ ks, (t.d.toNat * 100 + t.l.toNat * 10 + t.s.toNat) = (u.d.toNat * 100 + u.l.toNat * 10 + u.s.toNat) → t = u := by
    intro t ht u hu e
    obtain ⟨D, L, S, rfl, h1, h2, h3⟩ := h t ht
    obtain ⟨D', L', S', rfl, h1', h2', h3'⟩ := h u hu
    simp only [Int.toNat_natCast] at e
    have e1 : D = D' := by omega
    have e2 : L = L' := by omega
    have e3 : S = S' := by omega
    subst e1 e2 e3
    rfl
  have := nat_few 51200 (ks.map fun t => t.d.toNat * 100 + t.l.toNat * 10 + t.s.toNat) (by
    unfold List.Nodup
    rw [List.pairwise_map]
    refine (List.Pairwise.and_mem.1 hd).imp ?_
    rintro t u ⟨ht, hu, hne⟩ e
    exact hne (inj t ht u hu e)) (by
    intro x hx
    obtain ⟨t, ht, rfl⟩ := List.mem_map.1 hx
    obtain ⟨D, L, S, rfl, h1, h2, h3⟩ := h t ht
    have := pow9 hn
    simp only [Int.toNat_natCast]
    omega)
  simpa using this
end Go.Proofs.Ytaapbnhggfmlpaa.P
end
section
set_option linter.unusedVariables false
set_option linter.unusedSimpArgs false
namespace Go.Proofs.Ytaapbnhggfmlpaa.P
open Go.RowKit Go.Proofs.YtaapbnhggfmlpaaW.PrintWords Go.Proofs.YtaapbnhggfmlpaaW.PrintLast Go.Proofs.YtaapbnhggfmlpaaW.PrintMore
open Go.Proofs.Ytaapbnhggfmlpaa.M Go.Proofs.Ytaapbnhggfmlpaa.A
set_option maxHeartbeats 2000000 in
set_option maxRecDepth 100000 in
theorem left1_ (w0 : World) (gp gb gm c1 c2 : Nat) (A : Option Addr) (c : Nat) (l : List (List Int)) (fin best : Int) (x : Itm) (w : World)
    (hL : ∀ w', PW w0 gp gb gm A c l fin w' → Mem l fin gm w' → Calls Try.prog 123 #[.pointer (some ⟨gp, 0, none⟩), x.t.v] w' fun e w'' => e = .returned (.int .i64 (lf l fin x.t)) ∧ Mem l fin gm w'' ∧ Fr (· = gm) w' w'')
    (hW : PW w0 gp gb gm A c l fin w) (hM : Mem l fin gm w) (h1 : w.heap[c1]? = some (.cells #[.pointer (some ⟨gp, 0, none⟩)] 147 (0, 0))) (h2 : w.heap[c2]? = some (.cells #[.int .i64 best] 2 (0, 0)))
    (n1 : c1 ≠ gm) (n2 : c2 ≠ gm) (n12 : c1 ≠ c2) (m2 : w0.heap.size ≤ c2) (np : c2 ≠ gp) (nb : c2 ≠ gb) :
    Calls Try.prog 151 (#[.int .i64 x.w, .int .i64 x.c, x.t.v] ++ #[.pointer (some ⟨c1, 0, none⟩), .pointer (some ⟨c2, 0, none⟩)]) w fun e w' => e = .returned (.tuple #[]) ∧ Mem l fin gm w' ∧ w'.heap[c2]? = some (.cells #[.int .i64 (stepF (lf l fin) best x)] 2 (0, 0)) ∧ Fr (fun k => k = gm ∨ k = c2) w w' := by
  show Calls Try.prog 151 #[.int .i64 x.w, .int .i64 x.c, x.t.v, .pointer (some ⟨c1, 0, none⟩), .pointer (some ⟨c2, 0, none⟩)] w _
  have HL := Aside0.mk hL
  have HW := Aside0.mk hW
  have HM := Aside0.mk hM
  have H1 := Aside0.mk h1
  have H2 := Aside0.mk h2
  have N1 := Aside0.mk n1
  have N2 := Aside0.mk n2
  have N12 := Aside0.mk n12
  clear hL hW hM h1 h2 n1 n2 n12
  have hu150 := Try.underlying150
  obtain ⟨xw, xc, d, tl, ts⟩ := x
  go_enter Try.func151, Try.ntmps151
  go_wp2_with (first
      | ((with_reducible refine gate_dst (N := 7) rfl ?_); refine box_event ?hg (N := 7) ?hd (cs := #[.int .i64 d, .int .i64 tl, .int .i64 ts]) (t := 150) ?hr ?_; (case hd => rfl); (case hg => rfl); (case hr => first | (go_simp; done) | (go_simp; rfl)); intro gt hg w2 hbox hb; have HFR := Aside0.mk (Fr.of_below (F := fun k => k = gm ∨ k = c2) hb); have n1_ := Aside0.mk (blk_below H1.out hb); have n2_ := Aside0.mk (blk_below H2.out hb); have n3_ := Aside0.mk (HW.out.below hb); have n4_ := Aside0.mk (HM.out.below hb); clear H1 H2 HW HM hg; have H1 := n1_; have H2 := n2_; have HW := n3_; have HM := n4_; clear n1_ n2_ n3_ n4_; have hc1 := (blk_cell H1.out 0).trans rfl; have hd0 := (blk_cell hbox 0).trans rfl; have hd1 := (blk_cell hbox 1).trans rfl; have hd2 := (blk_cell hbox 2).trans rfl; clear hbox hb)
      | (go_at_call 123; (with_reducible refine (HL.out _ ?s1 ?s2).mono ?_); (case s1 => exact HW.out); (case s2 => exact HM.out); rintro e w3 ⟨rfl, hM3, hF3⟩; have HM3 := Aside0.mk hM3; have HF3 := Aside0.mk hF3; have H2' := Aside0.mk (hF3.blk H2.out N2.out); clear hM3 hF3 hc1 hd0 hd1 hd2; have hc2 := (blk_cell H2'.out 0).trans rfl; have hf2 := blk_frozen H2'.out 0))
  all_goals
    first | go_end0 | ((try simp only [Exit.inBlock, Exit.then]); refine bodyPost_ret (results_none rfl _ _ _) rfl ?_)
    have hFq := Fr.then_ HFR.out HF3.out (fun i hi => .inl (.inl hi))
    have hgc := HM3.out
    have hne := N2.out
    first
      | (have e : stepF (lf l fin) best ⟨xw, xc, ⟨d, tl, ts⟩⟩ = wrap64 (lf l fin ⟨d, tl, ts⟩ + xc) := if_pos ⟨by assumption, by first | assumption | exact .inl (by assumption)⟩
         exact ⟨rfl, hgc.heap (Below.heap_setCell _ _ _ _ (fun e => hne e.symm)), by rw [e]; exact blk_put H2'.out 0 _ rfl, Fr.set_ hFq (.inr rfl) _⟩)
      | (have e : stepF (lf l fin) best ⟨xw, xc, ⟨d, tl, ts⟩⟩ = best := if_neg (by rintro ⟨h0, h⟩; simp only at h0 h; omega)
         exact ⟨rfl, hgc, by rw [e]; exact H2'.out, hFq⟩)
end Go.Proofs.Ytaapbnhggfmlpaa.P
end
section
set_option linter.unusedVariables false
namespace Go.Proofs.Ytaapbnhggfmlpaa.M
open Go.Maps Go.RowKit Go.ChangeMaps
theorem TM.put_any {w : World} {b n : Nat} {f : T3 → Option Int} (h : TM w b n f) (hn : n < maxLen) {t : T3} (ht : t.ok) {x : Int} (hx : (Lit.int .i64 x).wf = true) (m : Nat) (hm : (f t).isSome = true ∧ n ≤ m ∨ n + 1 ≤ m) :
    ∃ w', (Instr.mapUpdate 111 (.map (some b)) t.v (.int .i64 x)).run Try.prog w = .ok () w' ∧ TM w' b m (fun u => if u = t then some x else f u) ∧ w.mapTurned w' b := by
  rcases hm with ⟨hf, hm⟩ | hm
  · obtain ⟨D, ho, hat⟩ := h
    obtain ⟨w', hrun, h1, h2⟩ := ho.store law150 Try.underlying111 hn (key_of t ht) (plainElem_int Try.underlying2 hx)
    have hT := ho.tidy law150
    have hs : Maps.size (D.put (tk t) (.lit (.int .i64 x))) ≤ m := by
      have hl := ho.size_le
      obtain ⟨es, rfl⟩ := ho.isMap
      have hh : Maps.has (.map es) (tk t) = true := by rw [(hat t ht).1, hf]
      rw [Maps.has_eq] at hh
      obtain ⟨p, hp, hk⟩ := List.any_eq_true.1 hh
      rw [DataW.put_eq, Maps.size_eq]
      unfold putKey
      rw [length_insert]
      have hlt : (es.filter (notKey (tk t))).length < es.length := by
        rcases Nat.lt_or_eq_of_le (List.length_filter_le (notKey (tk t)) es) with h | h
        · exact h
        · have := List.length_filter_eq_length_iff.1 h p hp
          simp [notKey, hk] at this
      rw [Maps.size_eq] at hl
      omega
    obtain ⟨es', clock', hb', F', hs', hD'⟩ := h1
    refine ⟨w', hrun, ⟨_, ⟨es', clock', hb', F', ?_, hD'⟩, fun u hu => ?_⟩, h2⟩
    · rw [hD', Maps.size_eq, length_read] at hs
      exact hs
    · by_cases e : u = t
      · subst e
        exact ⟨by rw [has_put_same hT.isMap (tk_is _)]; simp, by rw [atKey_put_same hT.isMap (tk_is _)]; simp⟩
      · have ne : tk u ≠ tk t := fun e' => e (tk_inj hu ht e')
        exact ⟨by rw [has_put_other ne, (hat u hu).1]; simp [e], by rw [atKey_put_other ne, (hat u hu).2]; simp [e]⟩
  · obtain ⟨w', hrun, ⟨D, h1, h3⟩, h2⟩ := h.put hn ht hx
    exact ⟨w', hrun, ⟨D, h1.mono hm, h3⟩, h2⟩
end Go.Proofs.Ytaapbnhggfmlpaa.M
namespace Go.Proofs.Ytaapbnhggfmlpaa.P
open Go.RowKit Go.Proofs.Ytaapbnhggfmlpaa.M Go.Proofs.Ytaapbnhggfmlpaa.A
theorem Mem.put {w : World} {gm : Nat} {l : List (List Int)} {fin : Int} (hn : l.length ≤ 9) (h : Mem l fin gm w) {t : T3} (ht : Tk l.length t) (hx : (Lit.int .i64 (lf l fin t)).wf = true) :
    ∃ w', (Instr.mapUpdate 111 (.map (some gm)) t.v (.int .i64 (lf l fin t))).run Try.prog w = .ok () w' ∧ Mem l fin gm w' ∧ Fr (· = gm) w w' := by
  obtain ⟨ks, tb, hnd, hks, hkt, hTM⟩ := h
  have hfew := tk_few hn hnd fun u hu => (hkt u hu).1
  have hlt : ks.length < maxLen := Nat.lt_of_le_of_lt hfew (by decide)
  by_cases hm : t ∈ ks
  · obtain ⟨w', hrun, h1, h2⟩ := hTM.put_any hlt (ht.ok hn) hx ks.length (.inl ⟨by rw [(hkt t hm).2]; rfl, Nat.le_refl _⟩)
    refine ⟨w', hrun, ⟨ks, _, hnd, fun u => ?_, fun u hu => ⟨(hkt u hu).1, ?_⟩, h1⟩, Fr.of_grown h2.grown fun k e => (Option.some.inj e).symm⟩
    · by_cases e : u = t
      · simp [e, hm]
      · simp only [if_neg e]
        exact hks u
    · by_cases e : u = t
      · simp [e]
      · simp only [if_neg e]
        exact (hkt u hu).2
  · obtain ⟨w', hrun, h1, h2⟩ := hTM.put_any hlt (ht.ok hn) hx (ks.length + 1) (.inr (Nat.le_refl _))
    refine ⟨w', hrun, ⟨t :: ks, _, List.nodup_cons.2 ⟨hm, hnd⟩, fun u => ?_, fun u hu => ?_, h1⟩, Fr.of_grown h2.grown fun k e => (Option.some.inj e).symm⟩
    · by_cases e : u = t
      · simp [e]
      · simp only [List.mem_cons, e, false_or, if_false]
        exact hks u
    · by_cases e : u = t
      · subst e
        exact ⟨ht, by simp⟩
      · have hu' : u ∈ ks := (List.mem_cons.1 hu).resolve_left e
        simp only [if_neg e]
        exact hkt u hu'
end Go.Proofs.Ytaapbnhggfmlpaa.P
end
