/- Lemmas and contracts of functions, part 1 of 7, for this law: The law FnBetween holds for every input: the best order between two ends begins and ends with them, no drawn order with these ends has a lesser coupling, and the best of all ends is the best order. -/
import Derived.Test.YtaapbnhggfmlpaaWWords
import Derived.Test.YtaapbnhggfmlpaaProg
import Derived.Below
import Derived.Deep.Draws
import Derived.Deep.AppendLies
import Derived.Maps.AppendAt
import Derived.OwnWalk
import Derived.Laws.BytesArg
import Derived.Laws.MakeOwn
import Derived.Laws.OwnMore
import Derived.Deep.OwnRows
import Derived.Tactics
import Derived.Lib.ConvBytes
import Derived.Laws.Slices
import Derived.WalkKit
import Derived.KernelRfl
import Derived.RowKit3
import Derived.Deep.LoopGhost
import Derived.Deep.QuietTactic
import Derived.BigQuiet
import Derived.WideLaws
import Derived.Deep.DeepCutAuto
import Derived.Deep.CutBlock
import Derived.Deep.RegionHeld3
import Derived.Laws.Rows
import Derived.Lib.AppendStr
import Derived.ArgAppend
import Derived.Laws.IdiomCopy
import Derived.OrdersHeld
import Derived.Laws.BitsLemmas
import Derived.RowKit
import Derived.Maps.OwnSet
import Derived.Maps.RangeWalk
import Derived.Maps.Ext
import Derived.Lib.Hide
import Derived.OneCell
import Derived.Test.YtaapbnhggfmlpaaWLast
import Derived.Test.YtaapbnhggfmlpaaWTab
import Derived.Test.YtaapbnhggfmlpaaWFour
import Derived.Test.YtaapbnhggfmlpaaWQPut
import Derived.Test.YtaapbnhggfmlpaaWApart
import Derived.Test.YtaapbnhggfmlpaaWArr
import Derived.Test.YtaapbnhggfmlpaaWZeros
import Derived.Test.YtaapbnhggfmlpaaWFoot
import Derived.Test.YtaapbnhggfmlpaaWKept
import Derived.Test.YtaapbnhggfmlpaaWShare
import Derived.Test.YtaapbnhggfmlpaaWN
import Derived.Test.YtaapbnhggfmlpaaWFootNe
import Derived.Test.YtaapbnhggfmlpaaWAt
import Derived.Test.YtaapbnhggfmlpaaWEqStruct
import Derived.Test.YtaapbnhggfmlpaaWRepsOne
import Derived.Test.YtaapbnhggfmlpaaWInv
import Derived.Test.YtaapbnhggfmlpaaWInvWords
import Derived.Test.YtaapbnhggfmlpaaWGuard
import Derived.Test.YtaapbnhggfmlpaaWNEv
import Derived.Test.YtaapbnhggfmlpaaWMore
section
namespace Go.Proofs.Ytaapbnhggfmlpaa.P
open Go.RowKit Go.Proofs.YtaapbnhggfmlpaaW.PrintWords
abbrev tt : Bool := true
abbrev ff : Bool := false
theorem l_a {α : Type _} (l : List α) (i : Nat) (a : α) : l.toArray.setIfInBounds i a = (l.set i a).toArray := List.setIfInBounds_toArray ..
theorem l_b {α : Type _} (x a : α) (xs : List α) : (x :: xs).set 0 a = a :: xs := rfl
theorem l_c {α : Type _} (x a : α) (xs : List α) (n : Nat) : (x :: xs).set (n + 1) a = x :: xs.set n a := rfl
theorem b_A {w : World} {g : Nat} {o : Obj} (h : w.heap[g]? = some o) (o' : Obj) : (w.alloc o').heap[g]? = some o := blk_alloc h o'
theorem b_D {w : World} {g : Nat} {o : Obj} (h : w.heap[g]? = some o) : w.drew.heap[g]? = some o := h
theorem b_N {w : World} {g : Nat} {o : Obj} (h : w.heap[g]? = some o) (n : Nat) : (w.drewN n).heap[g]? = some o := h
section
variable {α : Type} {d : Kd α} {e base : Nat} {ok : Nat → Prop} {w : World} {v : Value} {xs : List α}
theorem k_A (h : d.R e w base ok v xs) (o : Obj) : d.R e (w.alloc o) base ok v xs := Kd.R_alloc h o
theorem k_D (h : d.R e w base ok v xs) : d.R e w.drew base ok v xs := Kd.R_drew h
theorem k_N (h : d.R e w base ok v xs) (m : Nat) : d.R e (w.drewN m) base ok v xs := Kd.R_drewN h m
end
end Go.Proofs.Ytaapbnhggfmlpaa.P
end
section
namespace Go.Proofs.Ytaapbnhggfmlpaa.P
open Go.RowKit Go.Proofs.YtaapbnhggfmlpaaW.PrintWords Go.Proofs.YtaapbnhggfmlpaaW.PrintLast Go.Proofs.YtaapbnhggfmlpaaW.PrintMore
attribute [local go_sem] max2_int min2_int max_two min_two max_three min_three max_four min_four   -- for this text's walks alone
set_option linter.unusedVariables false
set_option linter.unusedSimpArgs false



def errW : Option Int → Value
  | none => .nilIface
  | some c => .iface 0 (.int .i64 c)
theorem errW_none : errW none = .nilIface := rfl
theorem errW_some (c : Int) : errW (some c) = .iface 0 (.int .i64 c) := rfl

theorem info2 : (Try.prog.info? 2).map (fun i => (i.zero, i.size, i.bytes)) = some (some (.int .i64 0), 1, 8) := by kernel_rfl
theorem info3 : (Try.prog.info? 3).map (fun i => (i.zero, i.size, i.bytes)) = some (some (.int .i64 0), 1, 8) := by kernel_rfl
theorem info28 : (Try.prog.info? 28).map (fun i => (i.zero, i.size, i.bytes)) = some (some (.slice none 0 0), 1, 24) := by kernel_rfl
theorem info35 : (Try.prog.info? 35).map (fun i => (i.zero, i.size, i.bytes)) = some (some (.agg #[(.int .i64 0), (.int .i64 0), (.int .i64 0)]), 3, 24) := by kernel_rfl
-- the values' own types
/-! #### struct type 35 -/
structure S35 where
  f0 : Int
  f1 : Int
  f2 : Int
def z35 : S35 := ⟨(0 : Int), (0 : Int), (0 : Int)⟩
def k35 : Kd S35 := Kd.iso (Kd.pair (Kd.int .i64) (Kd.pair (Kd.int .i64) (Kd.int .i64))) (fun x : S35 => (x.f0, x.f1, x.f2))
theorem k35_open {w : World} {x : S35} {cs : List Value} (h : k35.K w x cs) : cs = [.int .i64 x.f0, .int .i64 x.f1, .int .i64 x.f2] := by
  obtain ⟨_, _, rfl, rfl, ⟨_, _, rfl, rfl, rfl⟩⟩ := h
  exact rfl
theorem k35_openM {w : World} {base : Nat} {ok : Nat → Prop} {x : S35} {cs : List Value} (h : k35.M w base ok x cs) : cs = [.int .i64 x.f0, .int .i64 x.f1, .int .i64 x.f2] := by
  obtain ⟨_, _, rfl, rfl, ⟨_, _, rfl, rfl, rfl⟩⟩ := h
  exact rfl
theorem k35_mk (w : World) (x : S35)  : k35.K w x [.int .i64 x.f0, .int .i64 x.f1, .int .i64 x.f2] := ⟨[.int .i64 x.f0], [.int .i64 x.f1, .int .i64 x.f2], rfl, rfl, ⟨[.int .i64 x.f1], [.int .i64 x.f2], rfl, rfl, rfl⟩⟩
theorem k35_mkM (w : World) (base : Nat) (ok : Nat → Prop) (x : S35)  : k35.M w base ok x [.int .i64 x.f0, .int .i64 x.f1, .int .i64 x.f2] := ⟨[.int .i64 x.f0], [.int .i64 x.f1, .int .i64 x.f2], rfl, rfl, ⟨[.int .i64 x.f1], [.int .i64 x.f2], rfl, rfl, rfl⟩⟩
def rd_T35 (xs : List S35) (i : Int) : S35 := xs.getD i.toNat z35
theorem at_T35 {w : World} {A : Option Addr} {n : Nat} {xs : List S35} (h : Kd.C k35 w A n xs) (i : Int) (h0 : 0 ≤ i) (h1 : i < n) : ∃ ad , A = some ad ∧ w.cell? (ad.add (i.toNat * 3)) = some (.int .i64 (rd_T35 xs i).f0) ∧ w.cell? ⟨(ad.add (i.toNat * 3)).block, (ad.add (i.toNat * 3)).off + 1, none⟩ = some (.int .i64 (rd_T35 xs i).f1) ∧ w.cell? ⟨(ad.add (i.toNat * 3)).block, (ad.add (i.toNat * 3)).off + 2, none⟩ = some (.int .i64 (rd_T35 xs i).f2) := by
  obtain ⟨ad, c, e, _, hK, hc0⟩ := Kd.C_get h z35 i h0 h1
  have hc : ∀ j u, c[j]? = some u → w.cell? (ad.add (i.toNat * 3 + j)) = some u := hc0
  obtain rfl := k35_open hK
  exact ⟨ad, e, hc 0 _ rfl, by rw [← add_field _ _ 1 (by omega)]; exact hc 1 _ rfl, by rw [← add_field _ _ 2 (by omega)]; exact hc 2 _ rfl⟩

def rd_Ls2 (xs : List (List Int)) (i : Int) : (List Int) := xs.getD i.toNat ([] : List Int)
theorem at_Ls2 {w : World} {A : Option Addr} {n : Nat} {xs : List (List Int)} (h : Kd.C (Kd.slice 2 (Kd.int .i64)) w A n xs) (i : Int) (h0 : 0 ≤ i) (h1 : i < n) : ∃ ad A0 c0, A = some ad ∧ w.cell? (ad.add i.toNat) = some (.slice A0 (rd_Ls2 xs i).length c0) ∧ (rd_Ls2 xs i).length ≤ c0 ∧ (Kd.int .i64).C w A0 (rd_Ls2 xs i).length (rd_Ls2 xs i) := by
  obtain ⟨ad, c, e, _, hK, hc0⟩ := Kd.C_get h ([] : List Int) i h0 h1
  have hc : ∀ j u, c[j]? = some u → w.cell? (ad.add (i.toNat * 1 + j)) = some u := hc0
  obtain ⟨A0, c0, rfl, l0, g0⟩ := hK
  exact ⟨ad, A0, c0, e, by have hq := hc 0 _ rfl; rwa [Nat.mul_one, Nat.add_zero] at hq, l0, g0⟩

def rd_Ls3 (xs : List (List Int)) (i : Int) : (List Int) := xs.getD i.toNat ([] : List Int)
theorem at_Ls3 {w : World} {A : Option Addr} {n : Nat} {xs : List (List Int)} (h : Kd.C (Kd.slice 3 (Kd.int .i64)) w A n xs) (i : Int) (h0 : 0 ≤ i) (h1 : i < n) : ∃ ad A0 c0, A = some ad ∧ w.cell? (ad.add i.toNat) = some (.slice A0 (rd_Ls3 xs i).length c0) ∧ (rd_Ls3 xs i).length ≤ c0 ∧ (Kd.int .i64).C w A0 (rd_Ls3 xs i).length (rd_Ls3 xs i) := by
  obtain ⟨ad, c, e, _, hK, hc0⟩ := Kd.C_get h ([] : List Int) i h0 h1
  have hc : ∀ j u, c[j]? = some u → w.cell? (ad.add (i.toNat * 1 + j)) = some u := hc0
  obtain ⟨A0, c0, rfl, l0, g0⟩ := hK
  exact ⟨ad, A0, c0, e, by have hq := hc 0 _ rfl; rwa [Nat.mul_one, Nat.add_zero] at hq, l0, g0⟩

/-! #### struct type 156 -/
structure S156 where
  f0 : Int
  f1 : Int
  f2 : Int
def z156 : S156 := ⟨(0 : Int), (0 : Int), (0 : Int)⟩
def k156 : Kd S156 := Kd.iso (Kd.pair (Kd.int .i64) (Kd.pair (Kd.int .i64) (Kd.int .i64))) (fun x : S156 => (x.f0, x.f1, x.f2))
theorem k156_open {w : World} {x : S156} {cs : List Value} (h : k156.K w x cs) : cs = [.int .i64 x.f0, .int .i64 x.f1, .int .i64 x.f2] := by
  obtain ⟨_, _, rfl, rfl, ⟨_, _, rfl, rfl, rfl⟩⟩ := h
  exact rfl
theorem k156_openM {w : World} {base : Nat} {ok : Nat → Prop} {x : S156} {cs : List Value} (h : k156.M w base ok x cs) : cs = [.int .i64 x.f0, .int .i64 x.f1, .int .i64 x.f2] := by
  obtain ⟨_, _, rfl, rfl, ⟨_, _, rfl, rfl, rfl⟩⟩ := h
  exact rfl
theorem k156_mk (w : World) (x : S156)  : k156.K w x [.int .i64 x.f0, .int .i64 x.f1, .int .i64 x.f2] := ⟨[.int .i64 x.f0], [.int .i64 x.f1, .int .i64 x.f2], rfl, rfl, ⟨[.int .i64 x.f1], [.int .i64 x.f2], rfl, rfl, rfl⟩⟩
theorem k156_mkM (w : World) (base : Nat) (ok : Nat → Prop) (x : S156)  : k156.M w base ok x [.int .i64 x.f0, .int .i64 x.f1, .int .i64 x.f2] := ⟨[.int .i64 x.f0], [.int .i64 x.f1, .int .i64 x.f2], rfl, rfl, ⟨[.int .i64 x.f1], [.int .i64 x.f2], rfl, rfl, rfl⟩⟩
def rd_T156 (xs : List S156) (i : Int) : S156 := xs.getD i.toNat z156
theorem at_T156 {w : World} {A : Option Addr} {n : Nat} {xs : List S156} (h : Kd.C k156 w A n xs) (i : Int) (h0 : 0 ≤ i) (h1 : i < n) : ∃ ad , A = some ad ∧ w.cell? (ad.add (i.toNat * 3)) = some (.int .i64 (rd_T156 xs i).f0) ∧ w.cell? ⟨(ad.add (i.toNat * 3)).block, (ad.add (i.toNat * 3)).off + 1, none⟩ = some (.int .i64 (rd_T156 xs i).f1) ∧ w.cell? ⟨(ad.add (i.toNat * 3)).block, (ad.add (i.toNat * 3)).off + 2, none⟩ = some (.int .i64 (rd_T156 xs i).f2) := by
  obtain ⟨ad, c, e, _, hK, hc0⟩ := Kd.C_get h z156 i h0 h1
  have hc : ∀ j u, c[j]? = some u → w.cell? (ad.add (i.toNat * 3 + j)) = some u := hc0
  obtain rfl := k156_open hK
  exact ⟨ad, e, hc 0 _ rfl, by rw [← add_field _ _ 1 (by omega)]; exact hc 1 _ rfl, by rw [← add_field _ _ 2 (by omega)]; exact hc 2 _ rfl⟩

end Go.Proofs.Ytaapbnhggfmlpaa.P
end
section
namespace Go.Proofs.Ytaapbnhggfmlpaa.P
open Go.RowKit Go.Proofs.YtaapbnhggfmlpaaW.PrintWords Go.Proofs.YtaapbnhggfmlpaaW.PrintLast Go.Proofs.YtaapbnhggfmlpaaW.PrintMore
attribute [local go_sem] max2_int min2_int max_two min_two max_three min_three max_four min_four   -- for this text's walks alone
set_option linter.unusedVariables false
set_option linter.unusedSimpArgs false

/-! ### laws_r8Long: function 35 -/
def laws_r8Long.f (l0 : List Int) (l1 : List Int) : Option (Bool) := if (l0.length : Int) > 48 then (some true) else (some (decide ((l1.length : Int) > 48)))
set_option maxHeartbeats 4000000 in
set_option maxRecDepth 100000 in
theorem laws_r8Long.calls (A0 : Option Addr) (c0 : Nat) (l0 : List Int) (A1 : Option Addr) (c1 : Nat) (l1 : List Int) (r : Bool) (w : World) (hr0 : Kd.C (Kd.int .u8) w A0 l0.length l0) (hc0 : l0.length ≤ c0) (hr1 : Kd.C (Kd.int .u8) w A1 l1.length l1) (hc1 : l1.length ≤ c1) (h : laws_r8Long.f l0 l1 = some r) :
  Calls Try.prog 35 #[.slice A0 l0.length c0, .slice A1 l1.length c1] w fun e w' => e = .returned (.bool r) ∧ Drawn0 w w' := by
 have HR0 := Aside0.mk hr0
 have HC0 := Aside0.mk hc0
 clear hr0 hc0
 have HR1 := Aside0.mk hr1
 have HC1 := Aside0.mk hc1
 clear hr1 hc1
 have H : (if (l0.length : Int) > 48 then (some true) else (some (decide ((l1.length : Int) > 48)))) = some r := h
 clear h
 by_cases c3 : (l0.length : Int) > 48
 ·rw [if_pos c3] at H
  have c3b0 : decide (48 < (l0.length : Int)) = true := decide_eq_true c3
  have c3b1 : decide (48 < l0.length) = true := decide_eq_true (by omega)
  clear c3
  obtain rfl := Option.some.inj H
  go_enter Try.func35, Try.ntmps35
  go_wp2
  go_ret
  exact ⟨by first | rfl | (simp; done) | (simp [*]; done), by repeat (first | exact Drawn0.refl _ | apply Drawn0.step)⟩
 ·rw [if_neg c3] at H
  have c3b0 : decide (48 < (l0.length : Int)) = false := decide_eq_false c3
  have c3b1 : decide (48 < l0.length) = false := decide_eq_false (by omega)
  clear c3
  obtain rfl := Option.some.inj H
  go_enter Try.func35, Try.ntmps35
  go_wp2
  go_ret
  exact ⟨by first | rfl | (simp; done) | (simp [*]; done), by repeat (first | exact Drawn0.refl _ | apply Drawn0.step)⟩

end Go.Proofs.Ytaapbnhggfmlpaa.P
end
section
namespace Go.Proofs.Ytaapbnhggfmlpaa.P
open Go.RowKit Go.Proofs.YtaapbnhggfmlpaaW.PrintWords Go.Proofs.YtaapbnhggfmlpaaW.PrintLast Go.Proofs.YtaapbnhggfmlpaaW.PrintMore
attribute [local go_sem] max2_int min2_int max_two min_two max_three min_three max_four min_four   -- for this text's walks alone
set_option linter.unusedVariables false
set_option linter.unusedSimpArgs false

/-- A state of type 135 at block g of W; what its slices lead to came in by w0. -/
def IsS135 (w0 W : World) (g : Nat) (f0 : List Int) (f1 : Int) (f2 : Int) : Prop := ∃ A0 c0, W.heap[g]? = some (.cells #[.slice A0 f0.length c0, .int .i64 f1, .int .u64 f2] 135 (0, 0)) ∧ w0.heap.size ≤ g ∧ Kd.C (Kd.int .u8) w0 A0 f0.length f0
theorem IsS135.grown {w0 W : World} {g : Nat} {f0 : List Int} {f1 : Int} {f2 : Int} {W1 : World} {row : Option Nat} (h : IsS135 w0 W g f0 f1 f2) (hw : W.grownBy W1 row) (hne : some g ≠ row) : IsS135 w0 W1 g f0 f1 f2 := by
 obtain ⟨A0, c0, hb, hg, hr0⟩ := h
 exact ⟨A0, c0, blk_grown hb hw hne, hg, hr0⟩
theorem IsS135.own_neN {w0 W : World} {g : Nat} {f0 : List Int} {f1 : Int} {f2 : Int} {α : Type} {d : Kd α} {e : Nat} {base : Nat} {ok : Nat → Prop} {v : Value} {xs : List α} (h : IsS135 w0 W g f0 f1 f2) (ho : Kd.N d e W base ok v xs) (ht : e ≠ 135) : some g ≠ v.ownBlock := by
 obtain ⟨A0, c0, hb, hg, hr0⟩ := h
 exact Kd.N_ne ho hb ht
theorem IsS135.fresh {w0 W : World} {g : Nat} {f0 : List Int} {f1 : Int} {f2 : Int} (h : IsS135 w0 W g f0 f1 f2) : ∀ k, W.heap.size ≤ k → k ≠ g := by
 obtain ⟨A0, c0, hb, hg, hr0⟩ := h
 exact Kd.freshB hb
theorem IsS135.kept {w0 W : World} {g : Nat} {f0 : List Int} {f1 : Int} {f2 : Int} {W1 : World} {S : Nat → Prop} (h : IsS135 w0 W g f0 f1 f2) (hk : Kept W W1 S) (hne : ¬ S g) : IsS135 w0 W1 g f0 f1 f2 := by
 obtain ⟨A0, c0, hb, hg, hr0⟩ := h
 exact ⟨A0, c0, blk_kept hb hk hne, hg, hr0⟩
theorem IsS135.below {w0 W : World} {g : Nat} {f0 : List Int} {f1 : Int} {f2 : Int} {W1 : World} (h : IsS135 w0 W g f0 f1 f2) (hw : Below W.heap.size W W1) : IsS135 w0 W1 g f0 f1 f2 := h.grown (grown_of_below hw none) (by simp)
theorem IsS135.alloc {w0 W : World} {g : Nat} {f0 : List Int} {f1 : Int} {f2 : Int} (h : IsS135 w0 W g f0 f1 f2) (o : Obj) : IsS135 w0 (W.alloc o) g f0 f1 f2 := h.below (below_alloc (Below.refl _ _) o)
theorem IsS135.drewN {w0 W : World} {g : Nat} {f0 : List Int} {f1 : Int} {f2 : Int} (h : IsS135 w0 W g f0 f1 f2) (m : Nat) : IsS135 w0 (W.drewN m) g f0 f1 f2 := h
theorem IsS135.drew {w0 W : World} {g : Nat} {f0 : List Int} {f1 : Int} {f2 : Int} (h : IsS135 w0 W g f0 f1 f2) : IsS135 w0 W.drew g f0 f1 f2 := h
theorem IsS135.at_ {w0 W : World} {g : Nat} {f0 : List Int} {f1 : Int} {f2 : Int} {w' : World} {m : Nat} (hq : W.drewN m = w') (h : IsS135 w0 W g f0 f1 f2) : IsS135 w0 w' g f0 f1 f2 := by subst hq; exact IsS135.drewN h m
theorem IsS135.apart {w0 W : World} {g : Nat} {f0 : List Int} {f1 : Int} {f2 : Int} {α : Type} {d : Kd α} {e : Nat} {base : Nat} {ok : Nat → Prop} {v : Value} {xs : List α} (h : IsS135 w0 W g f0 f1 f2) (ho : d.R e W base ok v xs) (ht : ∀ q, q ∈ e :: d.E → q ≠ 135) : d.R e W base (fun k => ok k ∧ k ≠ g) v xs := by
 obtain ⟨A0, c0, hb, hg, hr0⟩ := h
 exact Kd.R_types ho hb ht
theorem IsS135.own_ne {w0 W : World} {g : Nat} {f0 : List Int} {f1 : Int} {f2 : Int} {α : Type} {d : Kd α} {e : Nat} {base : Nat} {ok : Nat → Prop} {v : Value} {xs : List α} (h : IsS135 w0 W g f0 f1 f2) (ho : d.R e W base ok v xs) (ht : e ≠ 135) : some g ≠ v.ownBlock := by
 obtain ⟨A0, c0, hb, hg, hr0⟩ := h
 exact Kd.R_ne ho hb ht
theorem IsS135.apartQ {w0 W : World} {g : Nat} {f0 : List Int} {f1 : Int} {f2 : Int} {α : Type} {d : Kd α} {e : Nat} {base : Nat} {ok : Nat → Prop} {v : Value} {xs : List α} (h : IsS135 w0 W g f0 f1 f2) (ho : d.Q e W base ok v xs) (ht : ∀ q, q ∈ e :: d.E → q ≠ 135) : d.Q e W base (fun k => ok k ∧ k ≠ g) v xs := by
 obtain ⟨A0, c0, hb, hg, hr0⟩ := h
 exact Kd.Q_types ho hb ht
theorem IsS135.own_neQ {w0 W : World} {g : Nat} {f0 : List Int} {f1 : Int} {f2 : Int} {α : Type} {d : Kd α} {e : Nat} {base : Nat} {ok : Nat → Prop} {v : Value} {xs : List α} (h : IsS135 w0 W g f0 f1 f2) (ho : d.Q e W base ok v xs) (ht : e ≠ 135) : some g ≠ v.ownBlock := by
 obtain ⟨A0, c0, hb, hg, hr0⟩ := h
 exact Kd.Q_ne ho hb ht
theorem IsS135.apartS {w0 W : World} {g : Nat} {f0 : List Int} {f1 : Int} {f2 : Int} {α : Type} {d : Kd α} {e : Nat} {base : Nat} {ok : Nat → Prop} {v : Value} {xs : List α} (h : IsS135 w0 W g f0 f1 f2) (ho : d.S e W base ok v xs) (ht : ∀ q, q ∈ e :: d.E → q ≠ 135) : d.S e W base (fun k => ok k ∧ k ≠ g) v xs := by
 obtain ⟨A0, c0, hb, hg, hr0⟩ := h
 exact Kd.S_types ho hb ht
theorem IsS135.own_neS {w0 W : World} {g : Nat} {f0 : List Int} {f1 : Int} {f2 : Int} {α : Type} {d : Kd α} {e : Nat} {base : Nat} {ok : Nat → Prop} {v : Value} {xs : List α} (h : IsS135 w0 W g f0 f1 f2) (ho : d.S e W base ok v xs) (ht : e ≠ 135) : some g ≠ v.ownBlock := by
 obtain ⟨A0, c0, hb, hg, hr0⟩ := h
 exact Kd.S_ne ho hb ht
theorem IsS135.lt {w0 W : World} {g : Nat} {f0 : List Int} {f1 : Int} {f2 : Int} (h : IsS135 w0 W g f0 f1 f2) : g < W.heap.size := by
 obtain ⟨A0, c0, hb, hg, hr0⟩ := h
 exact blk_lt hb
theorem IsS135.ge {w0 W : World} {g : Nat} {f0 : List Int} {f1 : Int} {f2 : Int} (h : IsS135 w0 W g f0 f1 f2) : w0.heap.size ≤ g := by
 obtain ⟨A0, c0, hb, hg, hr0⟩ := h
 exact hg
theorem IsS135.ne_blk {w0 W : World} {g : Nat} {f0 : List Int} {f1 : Int} {f2 : Int} {a : Nat} {cs : Array Value} {t : TypeId} {fr : Nat × Nat} (h : IsS135 w0 W g f0 f1 f2) (hb2 : W.heap[a]? = some (.cells cs t fr)) (ht : t ≠ 135) : g ≠ a := by
 obtain ⟨A0, c0, hb, hg, hr0⟩ := h
 rintro rfl
 rw [hb] at hb2
 injection hb2 with hb2
 injection hb2 with _ ht2
 exact ht ht2.symm
theorem IsS135.far {w0 W : World} {g : Nat} {f0 : List Int} {f1 : Int} {f2 : Int} {p : Addr} (h : IsS135 w0 W g f0 f1 f2) (hne : g ≠ p.block) (u : Value) : IsS135 w0 (W.setCell p u) g f0 f1 f2 := by
 obtain ⟨A0, c0, hb, hg, hr0⟩ := h
 exact ⟨A0, c0, blk_far hb hne u, hg, hr0⟩
theorem cellS135_0 {W : World} {g : Nat} {A0 : Option Addr} {c0 : Nat} {f0 : List Int} {f1 : Int} {f2 : Int} (h : W.heap[g]? = some (.cells #[.slice A0 f0.length c0, .int .i64 f1, .int .u64 f2] 135 (0, 0))) : W.cell? ⟨g, 0, none⟩ = some (.slice A0 f0.length c0) := (blk_cell h 0).trans rfl
theorem cellS135_1 {W : World} {g : Nat} {A0 : Option Addr} {c0 : Nat} {f0 : List Int} {f1 : Int} {f2 : Int} (h : W.heap[g]? = some (.cells #[.slice A0 f0.length c0, .int .i64 f1, .int .u64 f2] 135 (0, 0))) : W.cell? ⟨g, 1, none⟩ = some (.int .i64 f1) := (blk_cell h 1).trans rfl
theorem IsS135.set_1 {w0 W : World} {g : Nat} {f0 : List Int} {f1 : Int} {f2 : Int} (h : IsS135 w0 W g f0 f1 f2) (x : Int) : IsS135 w0 (W.setCell ⟨g, 1, none⟩ (.int .i64 x)) g f0 x f2 := by
 obtain ⟨A0, c0, hb, hg, hr0⟩ := h
 exact ⟨A0, c0, by simpa using blk_set hb 1 (.int .i64 x), hg, hr0⟩
theorem cellS135_2 {W : World} {g : Nat} {A0 : Option Addr} {c0 : Nat} {f0 : List Int} {f1 : Int} {f2 : Int} (h : W.heap[g]? = some (.cells #[.slice A0 f0.length c0, .int .i64 f1, .int .u64 f2] 135 (0, 0))) : W.cell? ⟨g, 2, none⟩ = some (.int .u64 f2) := (blk_cell h 2).trans rfl
theorem IsS135.set_2 {w0 W : World} {g : Nat} {f0 : List Int} {f1 : Int} {f2 : Int} (h : IsS135 w0 W g f0 f1 f2) (x : Int) : IsS135 w0 (W.setCell ⟨g, 2, none⟩ (.int .u64 x)) g f0 f1 x := by
 obtain ⟨A0, c0, hb, hg, hr0⟩ := h
 exact ⟨A0, c0, by simpa using blk_set hb 2 (.int .u64 x), hg, hr0⟩
theorem IsS135.new (w0 W : World) (A0 : Option Addr) (c0 : Nat) (f0 : List Int) (f1 : Int) (f2 : Int) (hB : Below w0.heap.size w0 W) (hr0 : Kd.C (Kd.int .u8) w0 A0 f0.length f0) : IsS135 w0 (W.alloc (.cells #[.slice A0 f0.length c0, .int .i64 f1, .int .u64 f2] 135)) W.heap.size f0 f1 f2 := ⟨A0, c0, by simpa using heap_alloc_new W _, hB.size, hr0⟩

/-! ### spec_l00From: function 59 -/
def spec_l00From.f (l0 : List Int) : Option (List Int × Int × Int) := some (l0, 0, 0)
set_option maxHeartbeats 4000000 in
set_option maxRecDepth 100000 in
theorem spec_l00From.calls (A0 : Option Addr) (c0 : Nat) (l0 : List Int) (r1 : List Int) (r2 : Int) (r3 : Int) (w0 w : World) (hB : Below w0.heap.size w0 w) (hr0 : Kd.C (Kd.int .u8) w0 A0 l0.length l0) (hc0 : l0.length ≤ c0) (h : spec_l00From.f l0 = some (r1, r2, r3)) :
  Calls Try.prog 59 #[.slice A0 l0.length c0] w fun e w' => ∃ g_ : Nat, e = .returned (.pointer (some ⟨g_, 0, none⟩)) ∧ IsS135 w0 w' g_ r1 r2 r3 ∧ Below w0.heap.size w0 w' ∧ Below w.heap.size w w' := by
 have hu135 := Try.underlying135
 have HR0 := Aside0.mk hr0
 have HC0 := Aside0.mk hc0
 clear hr0 hc0
 have HBW := Aside0.mk (Below.refl w.heap.size w)
 have HW0 := Aside0.mk hB.size
 have HB := Aside0.mk hB
 clear hB
 have H : (some (l0, 0, 0)) = some (r1, r2, r3) := h
 clear h
 simp only [Option.some.injEq, Prod.mk.injEq] at H
 obtain ⟨rfl, rfl, rfl⟩ := H
 go_enter Try.func59, Try.ntmps59
 go_wp2_with (first | ((with_reducible refine gate_dst (N := 5) rfl ?_); refine box_event ?hg (N := 5) ?hd (cs := #[.slice A0 l0.length c0, .int .i64 0, .int .u64 0]) (t := 135) ?hr ?_; (case hd => rfl); (case hg => rfl); (case hr => first | (go_simp; done) | (go_simp; rfl)); intro gb101 hg w2 hbox hb; have n0_ := Aside0.mk (below_step HBW.out hb); have n1_ := Aside0.mk (below_step (by repeat (first | (with_reducible first | exact HB.out | apply below_alloc | apply pw_below_drewN | apply below_drew1) | exact HB.out)) hb); have n2_ := Aside0.mk (hbox); have n3_ := Aside0.mk ((by rw [hg]; exact (below_size (by repeat (first | (with_reducible first | exact HBW.out | apply below_alloc | apply pw_below_drewN | apply below_drew1) | exact HBW.out))) : w.heap.size ≤ gb101)); have n4_ := Aside0.mk ((Nat.le_trans HW0.out (by rw [hg]; exact (below_size (by repeat (first | (with_reducible first | exact HBW.out | apply below_alloc | apply pw_below_drewN | apply below_drew1) | exact HBW.out))) : w.heap.size ≤ gb101) : w0.heap.size ≤ gb101)); clear HBW; clear HB; have HBW := n0_; have HB := n1_; have BK101 := n2_; have GW101 := n3_; have GE101 := n4_; clear n0_ n1_ n2_ n3_ n4_; clear hb hbox hg))
 go_ret
 exact ⟨_, rfl, (show IsS135 w0 _ gb101 l0 0 0 from ⟨_, _, by (with_reducible repeat first | refine b_N ?_ _ | refine b_D ?_ | refine b_A ?_ _); exact BK101.out, GE101.out, HR0.out⟩), by repeat (first | (with_reducible first | exact HB.out | apply below_alloc | apply pw_below_drewN | apply below_drew1) | exact HB.out), by repeat (first | (with_reducible first | exact HBW.out | apply below_alloc | apply pw_below_drewN | apply below_drew1) | exact HBW.out)⟩

end Go.Proofs.Ytaapbnhggfmlpaa.P
end
section
namespace Go.Proofs.Ytaapbnhggfmlpaa.P
open Go.RowKit Go.Proofs.YtaapbnhggfmlpaaW.PrintWords Go.Proofs.YtaapbnhggfmlpaaW.PrintLast Go.Proofs.YtaapbnhggfmlpaaW.PrintMore
attribute [local go_sem] max2_int min2_int max_two min_two max_three min_three max_four min_four   -- for this text's walks alone
set_option linter.unusedVariables false
set_option linter.unusedSimpArgs false

/-! ### spec_l00Src_next: function 122 -/
def spec_l00Src_next.j0 : Nat → Int → List Int → Int → Int → Option (Int × Int × Int)
 | 0, _, _, _, _ => none
 | k + 1, x3, x1000, x1001, x1002 => if (wrap64 (x1001 + 1)) ≤ (x1000.length : Int) then (some (x3, wrap64 (x1001 + 1), IntKind.u64.wrap ((IntKind.u64.wrap ((IntKind.u64.wrap (x1002 * 6364136223846793005)) + (IntKind.u64.wrap (x3)))) + 1442695040888963407))) else (some (wrap64 (Go.bits .and .u64 ((IntKind.u64.wrap ((IntKind.u64.wrap ((IntKind.u64.wrap (x1002 * 6364136223846793005)) + (IntKind.u64.wrap (x3)))) + 1442695040888963407)) / 1099511627776) 255), wrap64 (x1001 + 1), IntKind.u64.wrap ((IntKind.u64.wrap ((IntKind.u64.wrap (x1002 * 6364136223846793005)) + (IntKind.u64.wrap (x3)))) + 1442695040888963407)))
def spec_l00Src_next.f (k : Nat) (s0_0 : List Int) (s0_1 : Int) (s0_2 : Int) : Option (Int × Int × Int) := if s0_1 < (s0_0.length : Int) then (if 0 ≤ s0_1 then (spec_l00Src_next.j0 k (wrap64 (rd s0_0 s0_1)) s0_0 s0_1 s0_2) else (none)) else (spec_l00Src_next.j0 k 0 s0_0 s0_1 s0_2)
theorem spec_l00Src_next.mono_l : ∀ k, (∀ y0 y1 y2 y3, LeO (spec_l00Src_next.j0 k y0 y1 y2 y3) (spec_l00Src_next.j0 (k + 1) y0 y1 y2 y3))
 | 0 => fun _ _ _ _ r h => by simp [spec_l00Src_next.j0] at h
 | k + 1 => by
  have ih0 := spec_l00Src_next.mono_l k
  ·intro y0 y1 y2 y3
   unfold spec_l00Src_next.j0
   repeat' first
   | (with_reducible exact ih0 _ _ _ _)
   | (with_reducible exact LeO.refl _)
   | (with_reducible exact LeO.none _)
   | (with_reducible refine LeO.ite ?_ ?_)
   | (with_reducible refine LeO.bind ?_ (fun _ => ?_))
   | exact ih0 _ _ _ _
   | exact LeO.none _
   | refine LeO.ite ?_ ?_
   | refine LeO.bind ?_ (fun _ => ?_)
theorem spec_l00Src_next.mono : ∀ a0 a1 a2 k, LeO (spec_l00Src_next.f k a0 a1 a2) (spec_l00Src_next.f (k + 1) a0 a1 a2) := by
 intro a0 a1 a2 k
 have ih0 := spec_l00Src_next.mono_l k
 unfold spec_l00Src_next.f
 repeat' first
   | (with_reducible exact ih0 _ _ _ _)
   | (with_reducible exact LeO.refl _)
   | (with_reducible exact LeO.none _)
   | (with_reducible refine LeO.ite ?_ ?_)
   | (with_reducible refine LeO.bind ?_ (fun _ => ?_))
   | exact ih0 _ _ _ _
   | exact LeO.none _
   | refine LeO.ite ?_ ?_
   | refine LeO.bind ?_ (fun _ => ?_)
set_option maxHeartbeats 4000000 in
set_option maxRecDepth 100000 in
theorem spec_l00Src_next.calls (k : Nat) (g : Nat) (s0_0 : List Int) (s0_1 : Int) (s0_2 : Int) (r1 : Int) (r2 : Int) (r3 : Int) (w0 w : World) (hI : IsS135 w0 w g s0_0 s0_1 s0_2) (hB : Below w0.heap.size w0 w) (h : spec_l00Src_next.f k s0_0 s0_1 s0_2 = some (r1, r2, r3)) :
  Calls Try.prog 122 #[.pointer (some ⟨g, 0, none⟩)] w fun e w' => e = .returned (.int .i64 r1) ∧ IsS135 w0 w' g s0_0 r2 r3 ∧ Below w0.heap.size w0 w' ∧ KeepBut w w' g none := by
 have HI0 := Aside0.mk hI
 have HK := Aside0.mk (KeepBut.refl w g none)
 have HL := Aside0.mk hB.size
 clear hI
 have HW0 := Aside0.mk hB.size
 have HB := Aside0.mk hB
 clear hB
 have H : (if s0_1 < (s0_0.length : Int) then (if 0 ≤ s0_1 then (spec_l00Src_next.j0 k (wrap64 (rd s0_0 s0_1)) s0_0 s0_1 s0_2) else (none)) else (spec_l00Src_next.j0 k 0 s0_0 s0_1 s0_2)) = some (r1, r2, r3) := h
 clear h
 have HC2 := Aside0.mk H
 clear H
 obtain ⟨ASz3_0, cSz3_0, HGz3, hgz3, HSz3_0⟩ := HI0.out
 have hcz3_0 := cellS135_0 HGz3
 have hcz3_1 := cellS135_1 HGz3
 have hcz3_2 := cellS135_2 HGz3
 have hfz3_1 := blk_frozen HGz3 1
 have hfz3_2 := blk_frozen HGz3 2
 clear HGz3 hgz3
 go_enter Try.func122, Try.ntmps122
 go_upto_if 13 with (fail)
 repeat (go_quiet (fail); go_upto_if 13 with (fail))
 go_cut [3] (fun v3 wc => ∃ (kq : Nat) (x3_1 : Int), v3 = .int .i64 x3_1 ∧ Aside0 (spec_l00Src_next.j0 kq x3_1 s0_0 s0_1 s0_2 = some (r1, r2, r3)) ∧ Aside0 (kq ≤ k) ∧ Aside0 (IsS135 w0 wc g s0_0 s0_1 s0_2) ∧ Aside0 (KeepBut w wc g none) ∧ Aside0 (Below w0.heap.size w0 wc))
 case first =>
  have H := HC2.out
  clear HC2
  by_cases c4 : s0_1 < (s0_0.length : Int)
  ·rw [if_pos c4] at H
   have c4b0 : decide (s0_1 < (s0_0.length : Int)) = true := decide_eq_true c4
   clear c4
   (first | rw [c4b0] | (simp only [i64_w, i32_w]; rw [c4b0]) | skip)
   by_cases c5 : 0 ≤ s0_1
   ·rw [if_pos c5] at H
    have c5b0 : decide (0 ≤ s0_1) = true := decide_eq_true c5
    clear c5
    have H' := Aside0.mk H
    clear H
    clear hcz3_0 hcz3_1 hcz3_2 hfz3_1 hfz3_2 HSz3_0
    obtain ⟨ASz6_0, cSz6_0, HGz6, hgz6, HSz6_0⟩ := HI0.out
    have hcz6_0 := cellS135_0 HGz6
    have hcz6_1 := cellS135_1 HGz6
    have hcz6_2 := cellS135_2 HGz6
    have hfz6_1 := blk_frozen HGz6 1
    have hfz6_2 := blk_frozen HGz6 2
    clear HGz6 hgz6
    have p102 : 0 ≤ (s0_1 : Int) := of_decide_eq_true (by first | (with_reducible assumption) | assumption)
    have q102 : s0_1 < (s0_0.length : Int) := of_decide_eq_true (by first | (with_reducible assumption) | assumption)
    obtain ⟨ad102, e102, hx102_0⟩ := Kd.at_int HSz6_0 s0_1 p102 q102
    cases e102
    replace hx102_0 := pw_cell_below HB.out hx102_0
    replace p102 := eq_true p102
    replace q102 := eq_true q102
    go_wp2
    repeat (go_quiet (fail); try go_wp2)
    go_meet
    case rel => exact ⟨_, (wrap64 (rd s0_0 s0_1)), (by first | rfl | (simp; done) | (simp [*]; done)), H', ⟨by first | omega | exact Nat.le_refl _⟩, ⟨by repeat (first | (with_reducible first | exact HI0.out | apply IsS135.alloc | apply IsS135.drewN | apply IsS135.drew | apply IsS135.set_1 | apply IsS135.set_2) | exact HI0.out)⟩, ⟨by repeat (first | (with_reducible first | exact HK.out | apply KeepBut.set_ | apply keep_drewN | apply keep_drew | apply keep_alloc) | exact HK.out)⟩, ⟨by repeat (first | (with_reducible first | exact HB.out | apply below_alloc | apply pw_below_drewN | apply below_drew1 | refine below_set ?_ (IsS135.ge HI0.out)) | exact HB.out)⟩⟩
   ·rw [if_neg c5] at H
    exact absurd H (by simp)
  ·rw [if_neg c4] at H
   have c4b0 : decide (s0_1 < (s0_0.length : Int)) = false := decide_eq_false c4
   clear c4
   (first | rw [c4b0] | (simp only [i64_w, i32_w]; rw [c4b0]) | skip)
   have H' := Aside0.mk H
   clear H
   go_wp2
   repeat (go_quiet (fail); try go_wp2)
   go_meet
   case rel => exact ⟨_, (0), (by first | rfl | (simp; done) | (simp [*]; done)), H', ⟨by first | omega | exact Nat.le_refl _⟩, ⟨by repeat (first | (with_reducible first | exact HI0.out | apply IsS135.alloc | apply IsS135.drewN | apply IsS135.drew | apply IsS135.set_1 | apply IsS135.set_2) | exact HI0.out)⟩, ⟨by repeat (first | (with_reducible first | exact HK.out | apply KeepBut.set_ | apply keep_drewN | apply keep_drew | apply keep_alloc) | exact HK.out)⟩, ⟨by repeat (first | (with_reducible first | exact HB.out | apply below_alloc | apply pw_below_drewN | apply below_drew1 | refine below_set ?_ (IsS135.ge HI0.out)) | exact HB.out)⟩⟩
 case rest =>
  clear HC2
  try clear c1
  try clear p1
  try clear q1
  try clear hx1
  try clear p2
  try clear c4
  try clear c4b0
  try clear c5
  try clear c5b0
  try clear p6
  try clear hcz3_0
  try clear hcz3_1
  try clear hcz3_2
  try clear hcz6_0
  try clear hcz6_1
  try clear hcz6_2
  try clear hfz3_1
  try clear hfz3_2
  try clear hfz6_1
  try clear hfz6_2
  try clear hx102_0
  try clear p102
  try clear q102
  obtain ⟨kq, x3_1, rfl, HA, HJ1, HI0, HK, HB⟩ := hcut
  cases kq with
  | zero => exact absurd HA.out (by simp [spec_l00Src_next.j0])
  | succ kj1 =>
   have H := HA.out
   clear HA
   simp only [spec_l00Src_next.j0] at H
   by_cases c7 : (wrap64 (s0_1 + 1)) ≤ (s0_0.length : Int)
   ·rw [if_pos c7] at H
    have c7b0 : decide ((wrap64 (s0_1 + 1)) ≤ (s0_0.length : Int)) = true := decide_eq_true c7
    clear c7
    simp only [Option.some.injEq, Prod.mk.injEq] at H
    obtain ⟨rfl, rfl, rfl⟩ := H
    obtain ⟨ASz8_0, cSz8_0, HGz8, hgz8, HSz8_0⟩ := HI0.out
    have hcz8_0 := cellS135_0 HGz8
    have hcz8_1 := cellS135_1 HGz8
    have hcz8_2 := cellS135_2 HGz8
    have hfz8_1 := blk_frozen HGz8 1
    have hfz8_2 := blk_frozen HGz8 2
    clear HGz8 hgz8
    go_wp2
    repeat (go_quiet (fail); try go_wp2)
    go_ret
    exact ⟨by first | rfl | (simp [errW_none, errW_some] <;> rfl) | (simp [*, errW_none, errW_some] <;> rfl), by repeat (first | (with_reducible first | exact HI0.out | apply IsS135.alloc | apply IsS135.drewN | apply IsS135.drew | apply IsS135.set_1 | apply IsS135.set_2) | exact HI0.out), by repeat (first | (with_reducible first | exact HB.out | apply below_alloc | apply pw_below_drewN | apply below_drew1 | refine below_set ?_ (IsS135.ge HI0.out)) | exact HB.out), by repeat (first | (with_reducible first | exact HK.out | apply KeepBut.set_ | apply keep_drewN | apply keep_drew | apply keep_alloc) | exact HK.out)⟩
   ·rw [if_neg c7] at H
    have c7b0 : decide ((wrap64 (s0_1 + 1)) ≤ (s0_0.length : Int)) = false := decide_eq_false c7
    clear c7
    simp only [Option.some.injEq, Prod.mk.injEq] at H
    obtain ⟨rfl, rfl, rfl⟩ := H
    obtain ⟨ASz9_0, cSz9_0, HGz9, hgz9, HSz9_0⟩ := HI0.out
    have hcz9_0 := cellS135_0 HGz9
    have hcz9_1 := cellS135_1 HGz9
    have hcz9_2 := cellS135_2 HGz9
    have hfz9_1 := blk_frozen HGz9 1
    have hfz9_2 := blk_frozen HGz9 2
    clear HGz9 hgz9
    go_wp2
    repeat (go_quiet (fail); try go_wp2)
    go_ret
    exact ⟨by first | rfl | (simp [errW_none, errW_some] <;> rfl) | (simp [*, errW_none, errW_some] <;> rfl), by repeat (first | (with_reducible first | exact HI0.out | apply IsS135.alloc | apply IsS135.drewN | apply IsS135.drew | apply IsS135.set_1 | apply IsS135.set_2) | exact HI0.out), by repeat (first | (with_reducible first | exact HB.out | apply below_alloc | apply pw_below_drewN | apply below_drew1 | refine below_set ?_ (IsS135.ge HI0.out)) | exact HB.out), by repeat (first | (with_reducible first | exact HK.out | apply KeepBut.set_ | apply keep_drewN | apply keep_drew | apply keep_alloc) | exact HK.out)⟩

end Go.Proofs.Ytaapbnhggfmlpaa.P
end
section
namespace Go.Proofs.Ytaapbnhggfmlpaa.P
open Go.RowKit Go.Proofs.YtaapbnhggfmlpaaW.PrintWords Go.Proofs.YtaapbnhggfmlpaaW.PrintLast Go.Proofs.YtaapbnhggfmlpaaW.PrintMore
attribute [local go_sem] max2_int min2_int max_two min_two max_three min_three max_four min_four   -- for this text's walks alone
set_option linter.unusedVariables false
set_option linter.unusedSimpArgs false

/-! ### spec_l00Src_pick: function 88 -/
def spec_l00Src_pick.f (k : Nat) (s0_0 : List Int) (s0_1 : Int) (s0_2 : Int) (a1 : Int) : Option (Int × Int × Int) := if a1 ≤ 1 then (some (0, s0_1, s0_2)) else ((spec_l00Src_next.f k s0_0 s0_1 s0_2).bind fun bt103 => (if a1 > 200 then ((spec_l00Src_next.f k s0_0 bt103.2.1 bt103.2.2).bind fun bt106 => (if a1 = 0 then (none) else (some (Int.tmod (wrap64 ((wrap64 (bt103.1 * 256)) + bt106.1)) a1, bt106.2.1, bt106.2.2)))) else (if a1 = 0 then (none) else (some (Int.tmod bt103.1 a1, bt103.2.1, bt103.2.2)))))
theorem spec_l00Src_pick.mono : ∀ a0 a1 a2 a3 k, LeO (spec_l00Src_pick.f k a0 a1 a2 a3) (spec_l00Src_pick.f (k + 1) a0 a1 a2 a3) := by
 intro a0 a1 a2 a3 k
 unfold spec_l00Src_pick.f
 repeat' first
   | (with_reducible exact spec_l00Src_next.mono _ _ _ _)
   | (with_reducible exact LeO.refl _)
   | (with_reducible exact LeO.none _)
   | (with_reducible refine LeO.ite ?_ ?_)
   | (with_reducible refine LeO.bind ?_ (fun _ => ?_))
   | exact spec_l00Src_next.mono _ _ _ _
   | exact LeO.none _
   | refine LeO.ite ?_ ?_
   | refine LeO.bind ?_ (fun _ => ?_)
set_option maxHeartbeats 4000000 in
set_option maxRecDepth 100000 in
theorem spec_l00Src_pick.calls (k : Nat) (g : Nat) (s0_0 : List Int) (s0_1 : Int) (s0_2 : Int) (a1 : Int) (r1 : Int) (r2 : Int) (r3 : Int) (w0 w : World) (hI : IsS135 w0 w g s0_0 s0_1 s0_2) (hB : Below w0.heap.size w0 w) (h : spec_l00Src_pick.f k s0_0 s0_1 s0_2 a1 = some (r1, r2, r3)) :
  Calls Try.prog 88 #[.pointer (some ⟨g, 0, none⟩), .int .i64 a1] w fun e w' => e = .returned (.int .i64 r1) ∧ IsS135 w0 w' g s0_0 r2 r3 ∧ Below w0.heap.size w0 w' ∧ KeepBut w w' g none := by
 have HI0 := Aside0.mk hI
 have HK := Aside0.mk (KeepBut.refl w g none)
 have HL := Aside0.mk hB.size
 clear hI
 have HW0 := Aside0.mk hB.size
 have HB := Aside0.mk hB
 clear hB
 have H : (if a1 ≤ 1 then (some (0, s0_1, s0_2)) else ((spec_l00Src_next.f k s0_0 s0_1 s0_2).bind fun bt103 => (if a1 > 200 then ((spec_l00Src_next.f k s0_0 bt103.2.1 bt103.2.2).bind fun bt106 => (if a1 = 0 then (none) else (some (Int.tmod (wrap64 ((wrap64 (bt103.1 * 256)) + bt106.1)) a1, bt106.2.1, bt106.2.2)))) else (if a1 = 0 then (none) else (some (Int.tmod bt103.1 a1, bt103.2.1, bt103.2.2)))))) = some (r1, r2, r3) := h
 clear h
 by_cases c3 : a1 ≤ 1
 ·rw [if_pos c3] at H
  have c3b0 : decide (a1 ≤ 1) = true := decide_eq_true c3
  clear c3
  simp only [Option.some.injEq, Prod.mk.injEq] at H
  obtain ⟨rfl, rfl, rfl⟩ := H
  go_enter Try.func88, Try.ntmps88
  go_wp2
  go_ret
  exact ⟨by first | rfl | (simp [errW_none, errW_some] <;> rfl) | (simp [*, errW_none, errW_some] <;> rfl), by repeat (first | (with_reducible first | exact HI0.out | apply IsS135.alloc | apply IsS135.drewN | apply IsS135.drew | apply IsS135.set_1 | apply IsS135.set_2) | exact HI0.out), by repeat (first | (with_reducible first | exact HB.out | apply below_alloc | apply pw_below_drewN | apply below_drew1 | refine below_set ?_ (IsS135.ge HI0.out)) | exact HB.out), by repeat (first | (with_reducible first | exact HK.out | apply KeepBut.set_ | apply keep_drewN | apply keep_drew | apply keep_alloc) | exact HK.out)⟩
 ·rw [if_neg c3] at H
  have c3b0 : decide (a1 ≤ 1) = false := decide_eq_false c3
  clear c3
  replace H := Option.bind_eq_some_iff.mp H
  obtain ⟨⟨t103, t104, t105⟩, A40, H⟩ := H
  replace H : (if a1 > 200 then ((spec_l00Src_next.f k s0_0 t104 t105).bind fun bt106 => (if a1 = 0 then (none) else (some (Int.tmod (wrap64 ((wrap64 (t103 * 256)) + bt106.1)) a1, bt106.2.1, bt106.2.2)))) else (if a1 = 0 then (none) else (some (Int.tmod t103 a1, t104, t105)))) = some (r1, r2, r3) := H
  have A4 := Aside0.mk A40
  clear A40
  by_cases c5 : a1 > 200
  ·rw [if_pos c5] at H
   have c5b0 : decide (200 < a1) = true := decide_eq_true c5
   clear c5
   replace H := Option.bind_eq_some_iff.mp H
   obtain ⟨⟨t106, t107, t108⟩, A60, H⟩ := H
   replace H : (if a1 = 0 then (none) else (some (Int.tmod (wrap64 ((wrap64 (t103 * 256)) + t106)) a1, t107, t108))) = some (r1, r2, r3) := H
   have A6 := Aside0.mk A60
   clear A60
   by_cases c7 : a1 = 0
   ·rw [if_pos c7] at H
    exact absurd H (by simp)
   ·rw [if_neg c7] at H
    have c7b0 : (a1 == 0) = false := beq_eq_false_iff_ne.mpr c7
    have c7b1 : (a1 != 0) = true := bne_iff_ne.mpr c7
    simp only [Option.some.injEq, Prod.mk.injEq] at H
    obtain ⟨rfl, rfl, rfl⟩ := H
    go_enter Try.func88, Try.ntmps88
    go_wp2_with (first | ((with_reducible refine gate_callee (f := 122) rfl ?_); refine goesL_ (some 9) rfl rfl Try.func122 (by kernel_rfl) rfl #[.pointer (some ⟨g, 0, none⟩)] rfl (by (try simp only [List.map_toArray, List.map_cons, List.map_nil]); first | done | rfl | (simp only [List.length_drop, List.length_take]; rfl)) ?_; (with_reducible refine (spec_l00Src_next.calls k g s0_0 s0_1 s0_2 t103 t104 t105 w0 _ ?side1 ?side2 A4.out).mono ?_); (case side1 => repeat (first | (with_reducible first | exact HI0.out | apply IsS135.alloc | apply IsS135.drewN | apply IsS135.drew | apply IsS135.set_1 | apply IsS135.set_2) | exact HI0.out)); (case side2 => repeat (first | (with_reducible first | exact HB.out | apply below_alloc | apply pw_below_drewN | apply below_drew1 | refine below_set ?_ (IsS135.ge HI0.out)) | exact HB.out)); rintro e w8 ⟨rfl, hi, hb, hk⟩; refine ⟨_, rfl, ?_⟩; have n0_ := Aside0.mk (KeepBut.trans (by repeat (first | (with_reducible first | exact HK.out | apply KeepBut.set_ | apply keep_drewN | apply keep_drew | apply keep_alloc) | exact HK.out)) hk (.inl rfl)); have n1_ := Aside0.mk (hb); have n2_ := Aside0.mk (hi); clear HK; clear HB; clear HI0; have HK := n0_; have HB := n1_; have HI0 := n2_; clear n0_ n1_ n2_; (try clear hb); (try clear hb2); (try clear hk); (try clear hi)) | ((with_reducible refine gate_callee (f := 122) rfl ?_); refine goesL_ (some 15) rfl rfl Try.func122 (by kernel_rfl) rfl #[.pointer (some ⟨g, 0, none⟩)] rfl (by (try simp only [List.map_toArray, List.map_cons, List.map_nil]); first | done | rfl | (simp only [List.length_drop, List.length_take]; rfl)) ?_; (with_reducible refine (spec_l00Src_next.calls k g s0_0 t104 t105 t106 t107 t108 w0 _ ?side1 ?side2 A6.out).mono ?_); (case side1 => repeat (first | (with_reducible first | exact HI0.out | apply IsS135.alloc | apply IsS135.drewN | apply IsS135.drew | apply IsS135.set_1 | apply IsS135.set_2) | exact HI0.out)); (case side2 => repeat (first | (with_reducible first | exact HB.out | apply below_alloc | apply pw_below_drewN | apply below_drew1 | refine below_set ?_ (IsS135.ge HI0.out)) | exact HB.out)); rintro e w9 ⟨rfl, hi, hb, hk⟩; refine ⟨_, rfl, ?_⟩; have n0_ := Aside0.mk (KeepBut.trans (by repeat (first | (with_reducible first | exact HK.out | apply KeepBut.set_ | apply keep_drewN | apply keep_drew | apply keep_alloc) | exact HK.out)) hk (.inl rfl)); have n1_ := Aside0.mk (hb); have n2_ := Aside0.mk (hi); clear HK; clear HB; clear HI0; have HK := n0_; have HB := n1_; have HI0 := n2_; clear n0_ n1_ n2_; (try clear hb); (try clear hb2); (try clear hk); (try clear hi)))
    go_ret
    exact ⟨by first | rfl | (simp [errW_none, errW_some] <;> rfl) | (simp [*, errW_none, errW_some] <;> rfl), by repeat (first | (with_reducible first | exact HI0.out | apply IsS135.alloc | apply IsS135.drewN | apply IsS135.drew | apply IsS135.set_1 | apply IsS135.set_2) | exact HI0.out), by repeat (first | (with_reducible first | exact HB.out | apply below_alloc | apply pw_below_drewN | apply below_drew1 | refine below_set ?_ (IsS135.ge HI0.out)) | exact HB.out), by repeat (first | (with_reducible first | exact HK.out | apply KeepBut.set_ | apply keep_drewN | apply keep_drew | apply keep_alloc) | exact HK.out)⟩
  ·rw [if_neg c5] at H
   have c5b0 : decide (200 < a1) = false := decide_eq_false c5
   clear c5
   by_cases c10 : a1 = 0
   ·rw [if_pos c10] at H
    exact absurd H (by simp)
   ·rw [if_neg c10] at H
    have c10b0 : (a1 == 0) = false := beq_eq_false_iff_ne.mpr c10
    have c10b1 : (a1 != 0) = true := bne_iff_ne.mpr c10
    simp only [Option.some.injEq, Prod.mk.injEq] at H
    obtain ⟨rfl, rfl, rfl⟩ := H
    go_enter Try.func88, Try.ntmps88
    go_wp2_with (first | ((with_reducible refine gate_callee (f := 122) rfl ?_); refine goesL_ (some 9) rfl rfl Try.func122 (by kernel_rfl) rfl #[.pointer (some ⟨g, 0, none⟩)] rfl (by (try simp only [List.map_toArray, List.map_cons, List.map_nil]); first | done | rfl | (simp only [List.length_drop, List.length_take]; rfl)) ?_; (with_reducible refine (spec_l00Src_next.calls k g s0_0 s0_1 s0_2 t103 t104 t105 w0 _ ?side1 ?side2 A4.out).mono ?_); (case side1 => repeat (first | (with_reducible first | exact HI0.out | apply IsS135.alloc | apply IsS135.drewN | apply IsS135.drew | apply IsS135.set_1 | apply IsS135.set_2) | exact HI0.out)); (case side2 => repeat (first | (with_reducible first | exact HB.out | apply below_alloc | apply pw_below_drewN | apply below_drew1 | refine below_set ?_ (IsS135.ge HI0.out)) | exact HB.out)); rintro e w11 ⟨rfl, hi, hb, hk⟩; refine ⟨_, rfl, ?_⟩; have n0_ := Aside0.mk (KeepBut.trans (by repeat (first | (with_reducible first | exact HK.out | apply KeepBut.set_ | apply keep_drewN | apply keep_drew | apply keep_alloc) | exact HK.out)) hk (.inl rfl)); have n1_ := Aside0.mk (hb); have n2_ := Aside0.mk (hi); clear HK; clear HB; clear HI0; have HK := n0_; have HB := n1_; have HI0 := n2_; clear n0_ n1_ n2_; (try clear hb); (try clear hb2); (try clear hk); (try clear hi)))
    go_ret
    exact ⟨by first | rfl | (simp [errW_none, errW_some] <;> rfl) | (simp [*, errW_none, errW_some] <;> rfl), by repeat (first | (with_reducible first | exact HI0.out | apply IsS135.alloc | apply IsS135.drewN | apply IsS135.drew | apply IsS135.set_1 | apply IsS135.set_2) | exact HI0.out), by repeat (first | (with_reducible first | exact HB.out | apply below_alloc | apply pw_below_drewN | apply below_drew1 | refine below_set ?_ (IsS135.ge HI0.out)) | exact HB.out), by repeat (first | (with_reducible first | exact HK.out | apply KeepBut.set_ | apply keep_drewN | apply keep_drew | apply keep_alloc) | exact HK.out)⟩

end Go.Proofs.Ytaapbnhggfmlpaa.P
end
section
namespace Go.Proofs.Ytaapbnhggfmlpaa.P
open Go.RowKit Go.Proofs.YtaapbnhggfmlpaaW.PrintWords Go.Proofs.YtaapbnhggfmlpaaW.PrintLast Go.Proofs.YtaapbnhggfmlpaaW.PrintMore
attribute [local go_sem] max2_int min2_int max_two min_two max_three min_three max_four min_four   -- for this text's walks alone
set_option linter.unusedVariables false
set_option linter.unusedSimpArgs false

/-! ### spec_l00Src_among: function 111 -/
def spec_l00Src_among.f (k : Nat) (s0_0 : List Int) (s0_1 : Int) (s0_2 : Int) (l1 : List Int) : Option (Int × Int × Int) := (spec_l00Src_pick.f k s0_0 s0_1 s0_2 (l1.length : Int)).bind fun bt112 => (if 0 ≤ bt112.1 then (if bt112.1 < (l1.length : Int) then (some (rd l1 bt112.1, bt112.2.1, bt112.2.2)) else (none)) else (none))
theorem spec_l00Src_among.mono : ∀ a0 a1 a2 a3 k, LeO (spec_l00Src_among.f k a0 a1 a2 a3) (spec_l00Src_among.f (k + 1) a0 a1 a2 a3) := by
 intro a0 a1 a2 a3 k
 unfold spec_l00Src_among.f
 repeat' first
   | (with_reducible exact spec_l00Src_pick.mono _ _ _ _ _)
   | (with_reducible exact LeO.refl _)
   | (with_reducible exact LeO.none _)
   | (with_reducible refine LeO.ite ?_ ?_)
   | (with_reducible refine LeO.bind ?_ (fun _ => ?_))
   | exact spec_l00Src_pick.mono _ _ _ _ _
   | exact LeO.none _
   | refine LeO.ite ?_ ?_
   | refine LeO.bind ?_ (fun _ => ?_)
set_option maxHeartbeats 4000000 in
set_option maxRecDepth 100000 in
theorem spec_l00Src_among.calls (k : Nat) (g : Nat) (s0_0 : List Int) (s0_1 : Int) (s0_2 : Int) (A1 : Option Addr) (c1 : Nat) (l1 : List Int) (r1 : Int) (r2 : Int) (r3 : Int) (w0 w : World) (hI : IsS135 w0 w g s0_0 s0_1 s0_2) (hB : Below w0.heap.size w0 w) (hr1 : Kd.C (Kd.int .i64) w A1 l1.length l1) (hc1 : l1.length ≤ c1) (hf1 : ∀ ad, A1 = some ad → 0 < l1.length → ad.block ≠ g) (h : spec_l00Src_among.f k s0_0 s0_1 s0_2 l1 = some (r1, r2, r3)) :
  Calls Try.prog 111 #[.pointer (some ⟨g, 0, none⟩), .slice A1 l1.length c1] w fun e w' => e = .returned (.int .i64 r1) ∧ IsS135 w0 w' g s0_0 r2 r3 ∧ Below w0.heap.size w0 w' ∧ KeepBut w w' g none := by
 have HR1 := Aside0.mk hr1
 have HC1 := Aside0.mk hc1
 clear hr1 hc1
 have HI0 := Aside0.mk hI
 have HK := Aside0.mk (KeepBut.refl w g none)
 have HL := Aside0.mk hB.size
 clear hI
 have HW0 := Aside0.mk hB.size
 have HB := Aside0.mk hB
 clear hB
 have H : ((spec_l00Src_pick.f k s0_0 s0_1 s0_2 (l1.length : Int)).bind fun bt112 => (if 0 ≤ bt112.1 then (if bt112.1 < (l1.length : Int) then (some (rd l1 bt112.1, bt112.2.1, bt112.2.2)) else (none)) else (none))) = some (r1, r2, r3) := h
 clear h
 replace H := Option.bind_eq_some_iff.mp H
 obtain ⟨⟨t112, t113, t114⟩, A30, H⟩ := H
 replace H : (if 0 ≤ t112 then (if t112 < (l1.length : Int) then (some (rd l1 t112, t113, t114)) else (none)) else (none)) = some (r1, r2, r3) := H
 have A3 := Aside0.mk A30
 clear A30
 by_cases c4 : 0 ≤ t112
 ·rw [if_pos c4] at H
  have c4b0 : decide (0 ≤ t112) = true := decide_eq_true c4
  clear c4
  by_cases c5 : t112 < (l1.length : Int)
  ·rw [if_pos c5] at H
   have c5b0 : decide (t112 < (l1.length : Int)) = true := decide_eq_true c5
   clear c5
   simp only [Option.some.injEq, Prod.mk.injEq] at H
   obtain ⟨rfl, rfl, rfl⟩ := H
   go_enter Try.func111, Try.ntmps111
   go_wp2_with (first | ((with_reducible refine gate_callee (f := 88) rfl ?_); refine goesL_ (some 9) rfl rfl Try.func88 (by kernel_rfl) rfl #[.pointer (some ⟨g, 0, none⟩), .int .i64 (l1.length : Int)] rfl (by (try simp only [List.map_toArray, List.map_cons, List.map_nil]); first | done | rfl | (simp only [List.length_drop, List.length_take]; rfl)) ?_; (with_reducible refine (spec_l00Src_pick.calls k g s0_0 s0_1 s0_2 (l1.length : Int) t112 t113 t114 w0 _ ?side1 ?side2 A3.out).mono ?_); (case side1 => repeat (first | (with_reducible first | exact HI0.out | apply IsS135.alloc | apply IsS135.drewN | apply IsS135.drew | apply IsS135.set_1 | apply IsS135.set_2) | exact HI0.out)); (case side2 => repeat (first | (with_reducible first | exact HB.out | apply below_alloc | apply pw_below_drewN | apply below_drew1 | refine below_set ?_ (IsS135.ge HI0.out)) | exact HB.out)); rintro e w6 ⟨rfl, hi, hb, hk⟩; refine ⟨_, rfl, ?_⟩; have n0_ := Aside0.mk (KeepBut.trans (by repeat (first | (with_reducible first | exact HK.out | apply KeepBut.set_ | apply keep_drewN | apply keep_drew | apply keep_alloc) | exact HK.out)) hk (.inl rfl)); have n1_ := Aside0.mk (hb); have n2_ := Aside0.mk (hi); clear HK; clear HB; clear HI0; have HK := n0_; have HB := n1_; have HI0 := n2_; clear n0_ n1_ n2_; (try clear hb); (try clear hb2); (try clear hk); (try clear hi); have p115 : 0 ≤ (t112 : Int) := of_decide_eq_true (by first | (with_reducible assumption) | assumption); have q115 : t112 < (l1.length : Int) := of_decide_eq_true (by first | (with_reducible assumption) | assumption); obtain ⟨ad115, e115, hx115_0⟩ := Kd.at_int HR1.out t112 p115 q115; cases e115; replace hx115_0 := keep_cell HK.out hx115_0 (by first | (rw [add_block]; exact hf1 _ rfl (by omega)) | exact hf1 _ rfl (by omega) | exact hf1 ad115 rfl (by omega)); replace p115 := eq_true p115; replace q115 := eq_true q115))
   go_ret
   exact ⟨by first | rfl | (simp [errW_none, errW_some] <;> rfl) | (simp [*, errW_none, errW_some] <;> rfl), by repeat (first | (with_reducible first | exact HI0.out | apply IsS135.alloc | apply IsS135.drewN | apply IsS135.drew | apply IsS135.set_1 | apply IsS135.set_2) | exact HI0.out), by repeat (first | (with_reducible first | exact HB.out | apply below_alloc | apply pw_below_drewN | apply below_drew1 | refine below_set ?_ (IsS135.ge HI0.out)) | exact HB.out), by repeat (first | (with_reducible first | exact HK.out | apply KeepBut.set_ | apply keep_drewN | apply keep_drew | apply keep_alloc) | exact HK.out)⟩
  ·rw [if_neg c5] at H
   exact absurd H (by simp)
 ·rw [if_neg c4] at H
  exact absurd H (by simp)

end Go.Proofs.Ytaapbnhggfmlpaa.P
end
section
namespace Go.Proofs.Ytaapbnhggfmlpaa.P
open Go.RowKit Go.Proofs.YtaapbnhggfmlpaaW.PrintWords Go.Proofs.YtaapbnhggfmlpaaW.PrintLast Go.Proofs.YtaapbnhggfmlpaaW.PrintMore
attribute [local go_sem] max2_int min2_int max_two min_two max_three min_three max_four min_four   -- for this text's walks alone
set_option linter.unusedVariables false
set_option linter.unusedSimpArgs false

/-! ### spec_l10DrawOk: function 87 -/
mutual
def spec_l10DrawOk.l0 : Nat → Int → Int → List Int → Int → Int → List (List Int) → Option ((List (List Int)) × Int × Int)
 | 0, _, _, _, _, _, _ => none
 | k + 1, x5, x7, x1000, x1001, x1002, x637000 => if x7 < x5 then (if 0 ≤ x5 then (if (x5 : Int).toNat ≤ 35184372088832 then (if x637000.length < 5864062014805 then (spec_l10DrawOk.l0 k x5 (wrap64 (x7 + 1)) x1000 x1001 x1002 (x637000 ++ [(List.replicate (x5 : Int).toNat 0)])) else (none)) else (none)) else (none)) else ((spec_l00Src_among.f k x1000 x1001 x1002 (([3, 10, 1000] : List Int))).bind fun bt646 => (spec_l10DrawOk.l1 k x5 bt646.1 0 x1000 bt646.2.1 bt646.2.2 x637000))
def spec_l10DrawOk.l1 : Nat → Int → Int → Int → List Int → Int → Int → List (List Int) → Option ((List (List Int)) × Int × Int)
 | 0, _, _, _, _, _, _, _ => none
 | k + 1, x5, x8, x9, x1000, x1001, x1002, x637000 => if x9 < x5 then (spec_l10DrawOk.l2 k x5 x8 x9 0 x1000 x1001 x1002 x637000) else (some (x637000, x1001, x1002))
def spec_l10DrawOk.l2 : Nat → Int → Int → Int → Int → List Int → Int → Int → List (List Int) → Option ((List (List Int)) × Int × Int)
 | 0, _, _, _, _, _, _, _, _ => none
 | k + 1, x5, x8, x9, x10, x1000, x1001, x1002, x637000 => if x10 < x9 then ((spec_l00Src_pick.f k x1000 x1001 x1002 (wrap64 (x8 + 1))).bind fun bt649 => (if 0 ≤ x9 then (if x9 < (x637000.length : Int) then (if 0 ≤ x10 then (if x10 < ((rd_Ls2 x637000 x9).length : Int) then ((some (x637000.set (x9 : Int).toNat ((rd_Ls2 x637000 x9).set (x10 : Int).toNat bt649.1) : List (List Int))).bind fun y655 => (if x10 < (x637000.length : Int) then (if x9 < ((rd_Ls2 y655 x10).length : Int) then (spec_l10DrawOk.l2 k x5 x8 x9 (wrap64 (x10 + 1)) x1000 bt649.2.1 bt649.2.2 (y655.set (x10 : Int).toNat ((rd_Ls2 y655 x10).set (x9 : Int).toNat bt649.1))) else (none)) else (none))) else (none)) else (none)) else (none)) else (none))) else (spec_l10DrawOk.l1 k x5 x8 (wrap64 (x9 + 1)) x1000 x1001 x1002 x637000)
end
def spec_l10DrawOk.f (k : Nat) (s0_0 : List Int) (s0_1 : Int) (s0_2 : Int) (a1 : Int) : Option ((List (List Int)) × Int × Int) := (spec_l00Src_pick.f k s0_0 s0_1 s0_2 a1).bind fun bt630 => (spec_l10DrawOk.l0 k (wrap64 (1 + bt630.1)) 0 s0_0 bt630.2.1 bt630.2.2 (([] : List (List Int))))
theorem spec_l10DrawOk.mono_l : ∀ k, (∀ y0 y1 y2 y3 y4 y5, LeO (spec_l10DrawOk.l0 k y0 y1 y2 y3 y4 y5) (spec_l10DrawOk.l0 (k + 1) y0 y1 y2 y3 y4 y5)) ∧ (∀ y0 y1 y2 y3 y4 y5 y6, LeO (spec_l10DrawOk.l1 k y0 y1 y2 y3 y4 y5 y6) (spec_l10DrawOk.l1 (k + 1) y0 y1 y2 y3 y4 y5 y6)) ∧ (∀ y0 y1 y2 y3 y4 y5 y6 y7, LeO (spec_l10DrawOk.l2 k y0 y1 y2 y3 y4 y5 y6 y7) (spec_l10DrawOk.l2 (k + 1) y0 y1 y2 y3 y4 y5 y6 y7))
 | 0 => ⟨fun _ _ _ _ _ _ r h => by simp [spec_l10DrawOk.l0] at h, fun _ _ _ _ _ _ _ r h => by simp [spec_l10DrawOk.l1] at h, fun _ _ _ _ _ _ _ _ r h => by simp [spec_l10DrawOk.l2] at h⟩
 | k + 1 => by
  obtain ⟨ih0, ih1, ih2⟩ := spec_l10DrawOk.mono_l k
  refine ⟨?_, ?_, ?_⟩
  ·intro y0 y1 y2 y3 y4 y5
   unfold spec_l10DrawOk.l0
   repeat' first
   | (with_reducible exact ih0 _ _ _ _ _ _)
   | (with_reducible exact ih1 _ _ _ _ _ _ _)
   | (with_reducible exact ih2 _ _ _ _ _ _ _ _)
   | (with_reducible exact spec_l00Src_among.mono _ _ _ _ _)
   | (with_reducible exact spec_l00Src_pick.mono _ _ _ _ _)
   | (with_reducible exact LeO.refl _)
   | (with_reducible exact LeO.none _)
   | (with_reducible refine LeO.ite ?_ ?_)
   | (with_reducible refine LeO.bind ?_ (fun _ => ?_))
   | exact ih0 _ _ _ _ _ _
   | exact ih1 _ _ _ _ _ _ _
   | exact ih2 _ _ _ _ _ _ _ _
   | exact spec_l00Src_among.mono _ _ _ _ _
   | exact spec_l00Src_pick.mono _ _ _ _ _
   | exact LeO.none _
   | refine LeO.ite ?_ ?_
   | refine LeO.bind ?_ (fun _ => ?_)
  ·intro y0 y1 y2 y3 y4 y5 y6
   unfold spec_l10DrawOk.l1
   repeat' first
   | (with_reducible exact ih0 _ _ _ _ _ _)
   | (with_reducible exact ih1 _ _ _ _ _ _ _)
   | (with_reducible exact ih2 _ _ _ _ _ _ _ _)
   | (with_reducible exact spec_l00Src_among.mono _ _ _ _ _)
   | (with_reducible exact spec_l00Src_pick.mono _ _ _ _ _)
   | (with_reducible exact LeO.refl _)
   | (with_reducible exact LeO.none _)
   | (with_reducible refine LeO.ite ?_ ?_)
   | (with_reducible refine LeO.bind ?_ (fun _ => ?_))
   | exact ih0 _ _ _ _ _ _
   | exact ih1 _ _ _ _ _ _ _
   | exact ih2 _ _ _ _ _ _ _ _
   | exact spec_l00Src_among.mono _ _ _ _ _
   | exact spec_l00Src_pick.mono _ _ _ _ _
   | exact LeO.none _
   | refine LeO.ite ?_ ?_
   | refine LeO.bind ?_ (fun _ => ?_)
  ·intro y0 y1 y2 y3 y4 y5 y6 y7
   unfold spec_l10DrawOk.l2
   repeat' first
   | (with_reducible exact ih0 _ _ _ _ _ _)
   | (with_reducible exact ih1 _ _ _ _ _ _ _)
   | (with_reducible exact ih2 _ _ _ _ _ _ _ _)
   | (with_reducible exact spec_l00Src_among.mono _ _ _ _ _)
   | (with_reducible exact spec_l00Src_pick.mono _ _ _ _ _)
   | (with_reducible exact LeO.refl _)
   | (with_reducible exact LeO.none _)
   | (with_reducible refine LeO.ite ?_ ?_)
   | (with_reducible refine LeO.bind ?_ (fun _ => ?_))
   | exact ih0 _ _ _ _ _ _
   | exact ih1 _ _ _ _ _ _ _
   | exact ih2 _ _ _ _ _ _ _ _
   | exact spec_l00Src_among.mono _ _ _ _ _
   | exact spec_l00Src_pick.mono _ _ _ _ _
   | exact LeO.none _
   | refine LeO.ite ?_ ?_
   | refine LeO.bind ?_ (fun _ => ?_)
theorem spec_l10DrawOk.mono : ∀ a0 a1 a2 a3 k, LeO (spec_l10DrawOk.f k a0 a1 a2 a3) (spec_l10DrawOk.f (k + 1) a0 a1 a2 a3) := by
 intro a0 a1 a2 a3 k
 obtain ⟨ih0, ih1, ih2⟩ := spec_l10DrawOk.mono_l k
 unfold spec_l10DrawOk.f
 repeat' first
   | (with_reducible exact ih0 _ _ _ _ _ _)
   | (with_reducible exact ih1 _ _ _ _ _ _ _)
   | (with_reducible exact ih2 _ _ _ _ _ _ _ _)
   | (with_reducible exact spec_l00Src_among.mono _ _ _ _ _)
   | (with_reducible exact spec_l00Src_pick.mono _ _ _ _ _)
   | (with_reducible exact LeO.refl _)
   | (with_reducible exact LeO.none _)
   | (with_reducible refine LeO.ite ?_ ?_)
   | (with_reducible refine LeO.bind ?_ (fun _ => ?_))
   | exact ih0 _ _ _ _ _ _
   | exact ih1 _ _ _ _ _ _ _
   | exact ih2 _ _ _ _ _ _ _ _
   | exact spec_l00Src_among.mono _ _ _ _ _
   | exact spec_l00Src_pick.mono _ _ _ _ _
   | exact LeO.none _
   | refine LeO.ite ?_ ?_
   | refine LeO.bind ?_ (fun _ => ?_)
def spec_l10DrawOk.T6 : Bool × List (List Nat × List Nat) := (true, [([], []), ([0], [0]), ([], []), ([2, 2], [2]), ([3], [3]), ([1, 4], [1, 4]), ([0, 1, 2, 3, 4, 5], []), ([6, 5, 5, 0, 1, 2, 3, 4, 5], [5, 6])])
def spec_l10DrawOk.B6 : List Nat := [0, 1, 0, 4, 12, 31, 63, 127]
theorem spec_l10DrawOk.tab6 : rtab .any (opsOf Try.f87 6) = spec_l10DrawOk.T6 := by kernel_rfl
theorem spec_l10DrawOk.bits6 : waitsOk spec_l10DrawOk.T6.2 spec_l10DrawOk.B6 = true := by kernel_rfl
set_option maxHeartbeats 4000000 in
set_option maxRecDepth 100000 in
theorem spec_l10DrawOk.calls (k : Nat) (g : Nat) (s0_0 : List Int) (s0_1 : Int) (s0_2 : Int) (a1 : Int) (r1 : List (List Int)) (r2 : Int) (r3 : Int) (w0 w : World) (hI : IsS135 w0 w g s0_0 s0_1 s0_2) (hB : Below w0.heap.size w0 w) (h : spec_l10DrawOk.f k s0_0 s0_1 s0_2 a1 = some (r1, r2, r3)) :
  Calls Try.prog 87 #[.pointer (some ⟨g, 0, none⟩), .int .i64 a1] w fun e w' => ∃ v0_ : Value, e = .returned (.agg #[v0_]) ∧ Kd.S (Kd.slice 2 (Kd.int .i64)) 28 w' w.heap.size (fun _ => True) v0_ r1 ∧ IsS135 w0 w' g s0_0 r2 r3 ∧ Below w0.heap.size w0 w' ∧ KeepBut w w' g none := by
 have hu44 := Try.underlying44
 have HI0 := Aside0.mk hI
 have HK := Aside0.mk (KeepBut.refl w g none)
 have HL := Aside0.mk hB.size
 clear hI
 have HW0 := Aside0.mk hB.size
 have HB := Aside0.mk hB
 clear hB
 have H : ((spec_l00Src_pick.f k s0_0 s0_1 s0_2 a1).bind fun bt630 => (spec_l10DrawOk.l0 k (wrap64 (1 + bt630.1)) 0 s0_0 bt630.2.1 bt630.2.2 (([] : List (List Int))))) = some (r1, r2, r3) := h
 clear h
 replace H := Option.bind_eq_some_iff.mp H
 obtain ⟨⟨t630, t631, t632⟩, A30, H⟩ := H
 replace H : (spec_l10DrawOk.l0 k (wrap64 (1 + t630)) 0 s0_0 t631 t632 (([] : List (List Int)))) = some (r1, r2, r3) := H
 have A3 := Aside0.mk A30
 clear A30
 obtain ⟨y633, hy633⟩ : ∃ y_ : List (List Int), y_ = (([] : List (List Int))) := ⟨_, rfl⟩
 replace H : (spec_l10DrawOk.l0 k (wrap64 (1 + t630)) 0 s0_0 t631 t632 y633) = some (r1, r2, r3) := by first | (rw [hy633]; with_reducible exact H) | (have H2_ := (Option.bind_some _ _).symm.trans H; rw [hy633]; with_reducible exact H2_) | (have H2_ := (Option.bind_some _ _).symm.trans H; with_reducible exact H2_) | with_reducible exact H | (rw [hy633]; exact H) | exact H
 have Ny633 := Aside0.mk hy633
 clear hy633
 have H' := Aside0.mk H
 clear H
 go_enter Try.func87, Try.ntmps87
 go_wp2_with (first | ((with_reducible refine gate_dst (N := 4) rfl ?_); refine box_event ?hg (N := 4) ?hd (cs := #[.slice none 0 0]) (t := 44) ?hr ?_; (case hd => rfl); (case hg => rfl); (case hr => first | (go_simp; done) | (go_simp; rfl)); intro gb629 hg w4 hbox hb; have n0_ := Aside0.mk (IsS135.below (by repeat (first | (with_reducible first | exact HI0.out | apply IsS135.alloc | apply IsS135.drewN | apply IsS135.drew | apply IsS135.set_1 | apply IsS135.set_2) | exact HI0.out)) hb); have n1_ := Aside0.mk (KeepBut.trans (by repeat (first | (with_reducible first | exact HK.out | apply KeepBut.set_ | apply keep_drewN | apply keep_drew | apply keep_alloc) | exact HK.out)) (KeepBut.of_below hb g none) (.inl rfl)); have n2_ := Aside0.mk (below_step (by repeat (first | (with_reducible first | exact HB.out | apply below_alloc | apply pw_below_drewN | apply below_drew1 | refine below_set ?_ (IsS135.ge HI0.out)) | exact HB.out)) hb); have n3_ := Aside0.mk (hbox); have n4_ := Aside0.mk ((by rw [hg]; exact (keep_size (w := w) (g := g) (row := none) (by repeat (first | (with_reducible first | exact HK.out | apply KeepBut.set_ | apply keep_drewN | apply keep_drew | apply keep_alloc) | exact HK.out))) : w.heap.size ≤ gb629)); have n5_ := Aside0.mk ((Nat.le_trans HW0.out (by rw [hg]; exact (keep_size (w := w) (g := g) (row := none) (by repeat (first | (with_reducible first | exact HK.out | apply KeepBut.set_ | apply keep_drewN | apply keep_drew | apply keep_alloc) | exact HK.out))) : w.heap.size ≤ gb629) : w0.heap.size ≤ gb629)); have n6_ := Aside0.mk ((by rw [hg]; exact Nat.ne_of_lt (IsS135.lt (show IsS135 w0 _ g s0_0 s0_1 s0_2 from by repeat (first | (with_reducible first | exact HI0.out | apply IsS135.alloc | apply IsS135.drewN | apply IsS135.drew | apply IsS135.set_1 | apply IsS135.set_2) | exact HI0.out))) : g ≠ gb629)); have n7_ := Aside0.mk ((by rw [hg]; exact Nat.ne_of_gt (IsS135.lt (show IsS135 w0 _ g s0_0 s0_1 s0_2 from by repeat (first | (with_reducible first | exact HI0.out | apply IsS135.alloc | apply IsS135.drewN | apply IsS135.drew | apply IsS135.set_1 | apply IsS135.set_2) | exact HI0.out))) : gb629 ≠ g)); clear HI0; clear HK; clear HB; have HI0 := n0_; have HK := n1_; have HB := n2_; have BK629 := n3_; have GW629 := n4_; have GE629 := n5_; have NB0_629 := n6_; have NB629_0 := n7_; clear n0_ n1_ n2_ n3_ n4_ n5_ n6_ n7_; clear hb hbox hg) | ((with_reducible refine gate_callee (f := 88) rfl ?_); refine goesL_ (some 14) rfl rfl Try.func88 (by kernel_rfl) rfl #[.pointer (some ⟨g, 0, none⟩), .int .i64 a1] rfl (by (try simp only [List.map_toArray, List.map_cons, List.map_nil]); first | done | rfl | (simp only [List.length_drop, List.length_take]; rfl)) ?_; (with_reducible refine (spec_l00Src_pick.calls k g s0_0 s0_1 s0_2 a1 t630 t631 t632 w0 _ ?side1 ?side2 A3.out).mono ?_); (case side1 => repeat (first | (with_reducible first | exact HI0.out | apply IsS135.alloc | apply IsS135.drewN | apply IsS135.drew | apply IsS135.set_1 | apply IsS135.set_2) | exact HI0.out)); (case side2 => repeat (first | (with_reducible first | exact HB.out | apply below_alloc | apply pw_below_drewN | apply below_drew1 | refine below_set ?_ (IsS135.ge HI0.out)) | exact HB.out)); rintro e w5 ⟨rfl, hi, hb, hk⟩; refine ⟨_, rfl, ?_⟩; have n0_ := Aside0.mk (KeepBut.blk hk (g' := gb629) (o := .cells #[.slice none 0 0] 44 (0, 0)) (by (with_reducible repeat first | refine b_N ?_ _ | refine b_D ?_ | refine b_A ?_ _); exact BK629.out) NB629_0.out (by simp)); have n1_ := Aside0.mk (KeepBut.trans (by repeat (first | (with_reducible first | exact HK.out | apply KeepBut.set_ | apply keep_drewN | apply keep_drew | apply keep_alloc) | exact HK.out)) hk (.inl rfl)); have n2_ := Aside0.mk (hb); have n3_ := Aside0.mk (hi); clear BK629; clear HK; clear HB; clear HI0; have BK629 := n0_; have HK := n1_; have HB := n2_; have HI0 := n3_; clear n0_ n1_ n2_ n3_; (try clear hb); (try clear hb2); (try clear hk); (try clear hi)) | ((with_reducible refine gate_dst (N := 16) rfl ?_); refine Kd.S_lit (Kd.slice 2 (Kd.int .i64)) _ 28 ?hg (N := 16) ?hd (xs := ([] : List (List Int))) (inner := []) (ok := fun _ => True) (okp := fun _ => True) ?hr ?hp (fun _ hk => hk) trivial (Below.refl _ _) (Nat.le_refl _) (by simp) ?_; (case hd => rfl); (case hg => rfl); (case hr => first | (go_simp; done) | (go_simp; rfl)); (case hp => exact (Reps.none _ _)); intro v634 w6 ho7 hb hg_ hnew_; clear hg_ hnew_; (first | rw [← Ny633.out] at ho7 | (simp only [Int.reduceToNat] at ho7; rw [← Ny633.out] at ho7)); have n0_ := Aside0.mk (Kd.S_lower ho7 (keep_size (w := w) (g := g) (row := none) (by repeat (first | (with_reducible first | exact HK.out | apply KeepBut.set_ | apply keep_drewN | apply keep_drew | apply keep_alloc) | exact HK.out)))); have n1_ := Aside0.mk (IsS135.below (by repeat (first | (with_reducible first | exact HI0.out | apply IsS135.alloc | apply IsS135.drewN | apply IsS135.drew | apply IsS135.set_1 | apply IsS135.set_2) | exact HI0.out)) hb); have n2_ := Aside0.mk (blk_below (g := gb629) (o := .cells #[.slice none 0 0] 44 (0, 0)) (by (with_reducible repeat first | refine b_N ?_ _ | refine b_D ?_ | refine b_A ?_ _); exact BK629.out) hb); have n3_ := Aside0.mk (KeepBut.trans (by repeat (first | (with_reducible first | exact HK.out | apply KeepBut.set_ | apply keep_drewN | apply keep_drew | apply keep_alloc) | exact HK.out)) (KeepBut.of_below hb g none) (.inl rfl)); have n4_ := Aside0.mk (below_step (by repeat (first | (with_reducible first | exact HB.out | apply below_alloc | apply pw_below_drewN | apply below_drew1 | refine below_set ?_ (IsS135.ge HI0.out)) | exact HB.out)) hb); clear HI0; clear BK629; clear HK; clear HB; have HO635 := n0_; have HI0 := n1_; have BK629 := n2_; have HK := n3_; have HB := n4_; clear n0_ n1_ n2_ n3_ n4_; clear hb ho7; obtain ⟨Ao8, co8, eo8⟩ := Kd.S_slice HO635.out; subst eo8) | ((with_reducible refine gate_dst (N := 6) rfl ?_); refine box_event ?hg (N := 6) ?hd (cs := #[.slice none 0 0]) (t := 44) ?hr ?_; (case hd => rfl); (case hg => rfl); (case hr => first | (go_simp; done) | (go_simp; rfl)); intro gb636 hg w9 hbox hb; have n0_ := Aside0.mk (Kd.S_below (by (with_reducible repeat (first | apply Kd.S_alloc | apply Kd.S_drewN | apply Kd.S_drew)); exact HO635.out) hb); have n1_ := Aside0.mk (IsS135.below (by repeat (first | (with_reducible first | exact HI0.out | apply IsS135.alloc | apply IsS135.drewN | apply IsS135.drew | apply IsS135.set_1 | apply IsS135.set_2) | exact HI0.out)) hb); have n2_ := Aside0.mk (blk_below (g := gb629) (o := .cells #[.slice none 0 0] 44 (0, 0)) (by (with_reducible repeat first | refine b_N ?_ _ | refine b_D ?_ | refine b_A ?_ _); exact BK629.out) hb); have n3_ := Aside0.mk (KeepBut.trans (by repeat (first | (with_reducible first | exact HK.out | apply KeepBut.set_ | apply keep_drewN | apply keep_drew | apply keep_alloc) | exact HK.out)) (KeepBut.of_below hb g none) (.inl rfl)); have n4_ := Aside0.mk (below_step (by repeat (first | (with_reducible first | exact HB.out | apply below_alloc | apply pw_below_drewN | apply below_drew1 | refine below_set ?_ (IsS135.ge HI0.out)) | exact HB.out)) hb); have n5_ := Aside0.mk (hbox); have n6_ := Aside0.mk ((by rw [hg]; exact (keep_size (w := w) (g := g) (row := none) (by repeat (first | (with_reducible first | exact HK.out | apply KeepBut.set_ | apply keep_drewN | apply keep_drew | apply keep_alloc) | exact HK.out))) : w.heap.size ≤ gb636)); have n7_ := Aside0.mk ((Nat.le_trans HW0.out (by rw [hg]; exact (keep_size (w := w) (g := g) (row := none) (by repeat (first | (with_reducible first | exact HK.out | apply KeepBut.set_ | apply keep_drewN | apply keep_drew | apply keep_alloc) | exact HK.out))) : w.heap.size ≤ gb636) : w0.heap.size ≤ gb636)); have n8_ := Aside0.mk ((by rw [hg]; exact Nat.ne_of_lt (blk_lt (g := gb629) (o := .cells #[.slice none 0 0] 44 (0, 0)) (by (with_reducible repeat first | refine b_N ?_ _ | refine b_D ?_ | refine b_A ?_ _); exact BK629.out)) : gb629 ≠ gb636)); have n9_ := Aside0.mk ((by rw [hg]; exact Nat.ne_of_gt (blk_lt (g := gb629) (o := .cells #[.slice none 0 0] 44 (0, 0)) (by (with_reducible repeat first | refine b_N ?_ _ | refine b_D ?_ | refine b_A ?_ _); exact BK629.out)) : gb636 ≠ gb629)); have n10_ := Aside0.mk ((by rw [hg]; exact Nat.ne_of_lt (IsS135.lt (show IsS135 w0 _ g s0_0 t631 t632 from by repeat (first | (with_reducible first | exact HI0.out | apply IsS135.alloc | apply IsS135.drewN | apply IsS135.drew | apply IsS135.set_1 | apply IsS135.set_2) | exact HI0.out))) : g ≠ gb636)); have n11_ := Aside0.mk ((by rw [hg]; exact Nat.ne_of_gt (IsS135.lt (show IsS135 w0 _ g s0_0 t631 t632 from by repeat (first | (with_reducible first | exact HI0.out | apply IsS135.alloc | apply IsS135.drewN | apply IsS135.drew | apply IsS135.set_1 | apply IsS135.set_2) | exact HI0.out))) : gb636 ≠ g)); clear HO635; clear HI0; clear BK629; clear HK; clear HB; have HO635 := n0_; have HI0 := n1_; have BK629 := n2_; have HK := n3_; have HB := n4_; have BK636 := n5_; have GW636 := n6_; have GE636 := n7_; have NB629_636 := n8_; have NB636_629 := n9_; have NB0_636 := n10_; have NB636_0 := n11_; clear n0_ n1_ n2_ n3_ n4_ n5_ n6_ n7_ n8_ n9_ n10_ n11_; clear hb hbox hg; have hnb10 := NB636_629.out; have hnc10 := NB629_636.out; have hnb11 := NB636_0.out; have hnc11 := NB0_636.out; have hcz12_0 : w9.cell? ⟨gb636, 0, none⟩ = some (.slice none 0 0) := (blk_cell BK636.out 0).trans rfl; have hfz12_0 := blk_frozen BK636.out 0))
 go_loopg [7] k (fun kq v7 w' => ∃ (x7_1 : Int) (x637000_1 : List (List Int)) (u637000 : Value), v7 = .int .i64 x7_1 ∧ Aside0 (spec_l10DrawOk.l0 kq (wrap64 (1 + t630)) x7_1 s0_0 t631 t632 x637000_1 = some (r1, r2, r3)) ∧ Aside0 (kq ≤ k) ∧ Aside0 (Kd.S (Kd.slice 2 (Kd.int .i64)) 28 w' w.heap.size (fun _ => True) u637000 x637000_1) ∧ Aside0 (w'.heap[gb629]? = some (.cells #[(.slice none 0 0)] 44 (0, 0))) ∧ Aside0 (w'.heap[gb636]? = some (.cells #[u637000] 44 (0, 0))) ∧ Aside0 (IsS135 w0 w' g s0_0 t631 t632) ∧ Aside0 (KeepBut w w' g none) ∧ Aside0 (Below w0.heap.size w0 w'))
 case atStart => exact ⟨(0), (y633), (.slice Ao8 y633.length co8), (by first | rfl | (simp; done) | (simp [*]; done)), H', ⟨Nat.le_refl _⟩, ⟨by (with_reducible repeat (first | apply Kd.S_alloc | apply Kd.S_drewN | apply Kd.S_drew)); exact Kd.S_mono (Kd.S_far (p := ⟨gb636, 0, none⟩) (Kd.S_types HO635.out BK636.out (by decide)) (fun _ hk => hk.2) (.slice Ao8 y633.length co8)) (fun _ hk => trivial)⟩, ⟨by (with_reducible repeat first | refine b_N ?_ _ | refine b_D ?_ | refine b_A ?_ _); refine blk_far ?_ NB629_636.out _; (with_reducible repeat first | refine b_N ?_ _ | refine b_D ?_ | refine b_A ?_ _); exact BK629.out⟩, ⟨by (with_reducible repeat first | refine b_N ?_ _ | refine b_D ?_ | refine b_A ?_ _); refine blk_put (cs := #[.slice none 0 0]) ?_ 0 _ rfl; (with_reducible repeat first | refine b_N ?_ _ | refine b_D ?_ | refine b_A ?_ _); exact BK636.out⟩, ⟨by repeat (first | (with_reducible first | exact HI0.out | apply IsS135.alloc | apply IsS135.drewN | apply IsS135.drew | apply IsS135.set_1 | apply IsS135.set_2 | refine IsS135.far ?_ NB0_636.out _) | exact HI0.out)⟩, ⟨by repeat (first | (with_reducible first | exact HK.out | apply KeepBut.set_ | apply keep_drewN | apply keep_drew | apply keep_alloc | refine keep_far ?_ GW636.out _) | exact HK.out)⟩, ⟨by repeat (first | (with_reducible first | exact HB.out | apply below_alloc | apply pw_below_drewN | apply below_drew1 | refine below_set ?_ (IsS135.ge HI0.out) | refine below_set ?_ GE636.out) | exact HB.out)⟩⟩
 case round =>
  clear H'
  try clear c1
  try clear p2
  try clear p6
  try clear c8
  try clear c10
  try clear c11
  try clear hcz12_0
  try clear hfz12_0
  obtain ⟨x7_1, x637000_1, u637000, rfl, HA, HK1, HO_637000, BK629, BK636, HI0, HK, HB⟩ := hrel
  cases gk with
  | zero => exact absurd HA.out (by simp [spec_l10DrawOk.l0])
  | succ k1 =>
   have H := HA.out
   clear HA
   simp only [spec_l10DrawOk.l0] at H
   by_cases c13 : x7_1 < (wrap64 (1 + t630))
   ·rw [if_pos c13] at H
    have c13b0 : decide (x7_1 < (wrap64 (1 + t630))) = true := decide_eq_true c13
    clear c13
    obtain ⟨ji14, hji14⟩ : ∃ j_ : Int, (wrap64 (1 + t630)) = j_ := ⟨_, rfl⟩
    replace H : (if 0 ≤ (ji14) then (if ((ji14) : Int).toNat ≤ 35184372088832 then (if x637000_1.length < 5864062014805 then (spec_l10DrawOk.l0 k1 (ji14) (wrap64 (x7_1 + 1)) s0_0 t631 t632 (x637000_1 ++ [(List.replicate ((ji14) : Int).toNat 0)])) else (none)) else (none)) else (none)) = some (r1, r2, r3) := by first | (rw [hji14] at H; exact H) | (simp only [hji14] at H ⊢; exact H)
    (try rw [hji14] at c13b0)
    have hji14w : (IntKind.i64.wrap (1 + t630)) = ji14 := (i64_w _).trans hji14
    by_cases c15 : 0 ≤ (ji14)
    ·rw [if_pos c15] at H
     have c15b0 := eq_true c15
     have c15b1 : decide (0 ≤ (ji14)) = true := decide_eq_true c15
     clear c15
     by_cases c16 : ((ji14) : Int).toNat ≤ 35184372088832
     ·rw [if_pos c16] at H
      have c16b0 := eq_true c16
      have c16b1 : decide (((ji14) : Int).toNat ≤ 35184372088832) = true := decide_eq_true c16
      clear c16
      obtain ⟨y637, hy637⟩ : ∃ y_ : List Int, y_ = (List.replicate ((ji14) : Int).toNat 0) := ⟨_, rfl⟩
      replace H : (if x637000_1.length < 5864062014805 then (spec_l10DrawOk.l0 k1 (ji14) (wrap64 (x7_1 + 1)) s0_0 t631 t632 (x637000_1 ++ [y637])) else (none)) = some (r1, r2, r3) := by first | (rw [hy637]; with_reducible exact H) | (have H2_ := (Option.bind_some _ _).symm.trans H; rw [hy637]; with_reducible exact H2_) | (have H2_ := (Option.bind_some _ _).symm.trans H; with_reducible exact H2_) | with_reducible exact H | (rw [hy637]; exact H) | exact H
      have Ny637 := Aside0.mk hy637
      clear hy637
      by_cases c17 : x637000_1.length < 5864062014805
      ·rw [if_pos c17] at H
       have LMc17 := Aside0.mk c17
       clear c17
       obtain ⟨y640, hy640⟩ : ∃ y_ : List (List Int), y_ = (x637000_1 ++ [y637]) := ⟨_, rfl⟩
       replace H : (spec_l10DrawOk.l0 k1 (ji14) (wrap64 (x7_1 + 1)) s0_0 t631 t632 y640) = some (r1, r2, r3) := by first | (rw [hy640]; with_reducible exact H) | (have H2_ := (Option.bind_some _ _).symm.trans H; rw [hy640]; with_reducible exact H2_) | (have H2_ := (Option.bind_some _ _).symm.trans H; with_reducible exact H2_) | with_reducible exact H | (rw [hy640]; exact H) | exact H
       have Ny640 := Aside0.mk hy640
       clear hy640
       have H' := Aside0.mk H
       clear H
       try go_wp2
       have n0_ := Aside0.mk (Kd.S_drew HO_637000.out)
       have n1_ := Aside0.mk (blk_drew BK629.out)
       have n2_ := Aside0.mk (blk_drew BK636.out)
       have n3_ := Aside0.mk (IsS135.drew HI0.out)
       have n4_ := Aside0.mk (keep_drew HK.out)
       have n5_ := Aside0.mk (below_drew1 HB.out)
       clear HO_637000
       clear BK629
       clear BK636
       clear HI0
       clear HK
       clear HB
       have HO_637000 := n0_
       have BK629 := n1_
       have BK636 := n2_
       have HI0 := n3_
       have HK := n4_
       have HB := n5_
       clear n0_ n1_ n2_ n3_ n4_ n5_
       refine start_ (n := 8) (S := fun w' => w'.cell? ⟨gb636, 0, none⟩ = some (u637000)) (ds := [7]) #[ff,ff,ff,ff,ff,ff,ff,ff] (by kernel_rfl) rfl rfl ((blk_cell BK636.out 0).trans rfl) (fun hHeld => ?_); refine with_tabW spec_l10DrawOk.tab6 spec_l10DrawOk.bits6 (fun HT_ HW_ => ?_)
       generalize wr.drew = w18 at HO_637000 BK629 BK636 HI0 HK HB hHeld ⊢
       refine pure_ (i := 0) (N := some 23) (v := ?_) (a' := ?_) #[tt,ff,ff,ff,ff,ff,ff,ff] rfl rfl (any_of HT_.out (by kernel_rfl)) (fun _ _ _ h => h) (Or.inl ⟨by rfl, ?_⟩) ?_ ?_
       rotate_left
       ·intro w'
        go_simp
        with_reducible rfl
       rotate_left
       ·simp only [Act.put, l_a, l_b, l_c, i64_w, i32_w]
        rfl
       refine pure_ (i := 2) (N := some 25) (v := ?_) (a' := ?_) #[tt,ff,tt,ff,ff,ff,ff,ff] rfl rfl (any_of HT_.out (by kernel_rfl)) (fun _ _ _ h => h) (Or.inl ⟨by rfl, ?_⟩) ?_ ?_
       rotate_left
       ·intro w'
        go_simp
        with_reducible rfl
       rotate_left
       ·simp only [Act.put, l_a, l_b, l_c, i64_w, i32_w]
        rfl
       refine take_ (i := 1) (N := some 24) (v := ?_) (a' := ?_) #[tt,tt,tt,ff,ff,ff,ff,ff] rfl rfl (take_ofW HT_.out HW_.out (by kernel_rfl)) (fun _ _ _ h => h) (Or.inl ⟨by rfl, ?_⟩) hHeld ?_ ?_
       rotate_left
       ·intro w' s0
        go_simp
        with_reducible rfl
       rotate_left
       ·simp only [Act.put, l_a, l_b, l_c, i64_w, i32_w]
        rfl
       refine one_ (i := 3) (N := some 26) #[tt,tt,tt,tt,ff,ff,ff,ff] rfl rfl (one_of HT_.out (by kernel_rfl)) (by decide) (fun K hK => ?_)
       refine Kd.R_make_step (Kd.int .i64) _ 2 (by rfl) (N := 26) rfl 28 _ _ rfl (ji14) rfl rfl Try.underlying28 (.int .i64 0) 8 info2 rfl (by decide) (by omega) 0 (ok := fun _ => True) (okp := fun _ => True) rfl (fun _ hk => hk) trivial (of_decide_eq_true (by first | (with_reducible assumption) | assumption)) (Nat.le_trans (Nat.mul_le_mul_right _ (of_decide_eq_true (by first | (with_reducible assumption) | assumption) : (ji14).toNat ≤ 35184372088832)) (by omega)) (Below.refl _ _) (Nat.le_refl _) ?_
       intro v638 w19 ho20 hb hg_ hnew_
       clear hg_ hnew_
       (first | rw [← Ny637.out] at ho20 | (simp only [Int.reduceToNat] at ho20; rw [← Ny637.out] at ho20))
       have n0_ := Aside0.mk (Kd.S_elder' (by (with_reducible repeat (first | apply Kd.S_alloc | apply Kd.S_drewN | apply Kd.S_drew)); exact HO_637000.out) (Kd.R_base ho20) hb)
       have n1_ := Aside0.mk (Kd.R_lower ho20 (keep_size (w := w) (g := g) (row := none) (by repeat (first | (with_reducible first | exact HK.out | apply KeepBut.set_ | apply keep_drewN | apply keep_drew | apply keep_alloc) | exact HK.out))))
       have n2_ := Aside0.mk (blk_below (g := gb629) (o := .cells #[.slice none 0 0] 44 (0, 0)) (by (with_reducible repeat first | refine b_N ?_ _ | refine b_D ?_ | refine b_A ?_ _); exact BK629.out) hb)
       have n3_ := Aside0.mk (blk_below (g := gb636) (o := .cells #[u637000] 44 (0, 0)) (by (with_reducible repeat first | refine b_N ?_ _ | refine b_D ?_ | refine b_A ?_ _); exact BK636.out) hb)
       have n4_ := Aside0.mk (IsS135.below (by repeat (first | (with_reducible first | exact HI0.out | apply IsS135.alloc | apply IsS135.drewN | apply IsS135.drew | apply IsS135.set_1 | apply IsS135.set_2) | exact HI0.out)) hb)
       have n5_ := Aside0.mk (KeepBut.trans (by repeat (first | (with_reducible first | exact HK.out | apply KeepBut.set_ | apply keep_drewN | apply keep_drew | apply keep_alloc) | exact HK.out)) (KeepBut.of_below hb g none) (.inl rfl))
       have n6_ := Aside0.mk (below_step (by repeat (first | (with_reducible first | exact HB.out | apply below_alloc | apply pw_below_drewN | apply below_drew1 | refine below_set ?_ (IsS135.ge HI0.out)) | exact HB.out)) hb)
       clear HO_637000
       clear BK629
       clear BK636
       clear HI0
       clear HK
       clear HB
       have HO_637000 := n0_
       have HO639 := n1_
       have BK629 := n2_
       have BK636 := n3_
       have HI0 := n4_
       have HK := n5_
       have HB := n6_
       clear n0_ n1_ n2_ n3_ n4_ n5_ n6_
       clear hb ho20
       obtain ⟨Ao22, co22, eo22⟩ := Kd.R_slice HO639.out
       (first | subst eo22 | (injection eo22 with f1_ f2_ f3_; have f4_ := f1_.symm; have f5_ := f3_.symm; clear f1_ f2_ f3_; subst f4_; subst f5_))
       refine hK.out _ _ ((blk_cell BK636.out 0).trans rfl) (fun hHeld => ?_)
       clear hK K
       refine norm_ (a' := ?_) ?_ ?_
       rotate_left
       ·show Act.put _ (some 26) _ = _
        simp only [Act.put, l_a, l_b, l_c, i64_w, i32_w]
        rfl
       refine one_ (i := 4) (N := some 27) #[tt,tt,tt,tt,tt,ff,ff,ff] rfl rfl (one_of HT_.out (by kernel_rfl)) (by decide) (fun K hK => ?_)
       refine value_ (w1 := ?_) (v := ?_) (by rfl) rfl ?_ ?_
       rotate_left 2
       ·go_simp
        constructor
        ·rfl
        ·rfl
       refine hK.out _ _ ((blk_cell (blk_alloc BK636.out _) 0).trans rfl) (fun hHeld => ?_)
       clear hK K
       refine norm_ (a' := ?_) ?_ ?_
       rotate_left
       ·show Act.put _ (some 27) _ = _
        simp only [Act.put, l_a, l_b, l_c, i64_w, i32_w]
        rfl
       refine one_ (i := 5) (N := some 28) #[tt,tt,tt,tt,tt,tt,ff,ff] rfl rfl (one_of HT_.out (by kernel_rfl)) (by decide) (fun K hK => ?_)
       refine Kd.S_append_step (Kd.slice 2 (Kd.int .i64)) w.heap.size (by rfl) (.tmp 24) (.tmp 27) 39 28 (.slice none 0 0) 24 rfl Try.underlying39 info28 rfl (by decide) (by omega) u637000 x637000_1 y637 [.slice Ao22 y637.length co22] (fun _ => True) (fun k_ => some k_ = (.slice Ao22 y637.length co22 : Value).ownBlock) rfl rfl ?aP (fun k_ hk_ => ((Kd.R_mono (ok' := fun k_ => ((fun _ => True)) k_ ∧ some k_ ≠ (u637000 : Value).ownBlock) (Kd.R_apart' (HO639.out) (Kd.S_typed HO_637000.out) (by decide)) (fun k_ hk => ⟨trivial, hk.2⟩))).1 k_ hk_.symm) ?aF ?aO (Below.refl _ _) ?aS ?aL ?_
       (case aP => exact Kd.M_row (Kd.R_mono (Kd.R_tight rfl (Kd.R_mono (ok' := fun k_ => ((fun _ => True)) k_ ∧ some k_ ≠ (u637000 : Value).ownBlock) (Kd.R_apart' (HO639.out) (Kd.S_typed HO_637000.out) (by decide)) (fun k_ hk => ⟨trivial, hk.2⟩))) (fun _ h_ => h_)))
       (case aF => exact (fun _ _ => trivial))
       (case aO => exact (by (with_reducible repeat (first | apply Kd.S_alloc | apply Kd.S_drewN | apply Kd.S_drew)); exact Kd.S_mono HO_637000.out (fun k_ hk => ⟨trivial, fun e_ => hk.2 e_⟩)))
       (case aS => exact (keep_size (w := w) (g := g) (row := none) (by repeat (first | (with_reducible first | exact HK.out | apply KeepBut.set_ | apply keep_drewN | apply keep_drew | apply keep_alloc) | exact HK.out))))
       (case aL => have := LMc17.out; omega)
       intro v641 w21 ho hb hg hat
       rw [← Ny640.out] at ho
       have n0_ := Aside0.mk (blk_grown (g := gb629) (o := .cells #[.slice none 0 0] 44 (0, 0)) (by (with_reducible repeat first | refine b_N ?_ _ | refine b_D ?_ | refine b_A ?_ _); exact BK629.out) hg (Kd.S_ne HO_637000.out BK629.out (by decide)))
       have n1_ := Aside0.mk (blk_grown (g := gb636) (o := .cells #[u637000] 44 (0, 0)) (by (with_reducible repeat first | refine b_N ?_ _ | refine b_D ?_ | refine b_A ?_ _); exact BK636.out) hg (Kd.S_ne HO_637000.out BK636.out (by decide)))
       have n2_ := Aside0.mk (IsS135.grown (by repeat (first | (with_reducible first | exact HI0.out | apply IsS135.alloc | apply IsS135.drewN | apply IsS135.drew | apply IsS135.set_1 | apply IsS135.set_2) | exact HI0.out)) hg (IsS135.own_neS HI0.out HO_637000.out (by decide)))
       have n3_ := Aside0.mk (below_weaken (by repeat (first | (with_reducible first | exact HB.out | apply below_alloc | apply pw_below_drewN | apply below_drew1 | refine below_set ?_ (IsS135.ge HI0.out)) | exact HB.out)) HL.out hb)
       have n4_ := Aside0.mk (KeepBut.trans (by repeat (first | (with_reducible first | exact HK.out | apply KeepBut.set_ | apply keep_drewN | apply keep_drew | apply keep_alloc) | exact HK.out)) (KeepBut.of_grown hg g) (Kd.S_base2 HO_637000.out))
       have n5_ := Aside0.mk (ho)
       clear BK629
       clear BK636
       clear HI0
       clear HB
       clear HK
       clear HO_637000
       clear HO639
       have BK629 := n0_
       have BK636 := n1_
       have HI0 := n2_
       have HB := n3_
       have HK := n4_
       have HO642 := n5_
       clear n0_ n1_ n2_ n3_ n4_ n5_
       clear ho hb hg hat
       obtain ⟨Ao23, co23, eo23⟩ := Kd.S_slice HO642.out
       (first | subst eo23 | (injection eo23 with f1_ f2_ f3_; have f4_ := f1_.symm; have f5_ := f3_.symm; clear f1_ f2_ f3_; subst f4_; subst f5_))
       refine hK.out _ _ ((blk_cell BK636.out 0).trans rfl) (fun hHeld => ?_)
       clear hK K
       refine norm_ (a' := ?_) ?_ ?_
       rotate_left
       ·show Act.put _ (some 28) _ = _
        simp only [Act.put, l_a, l_b, l_c, i64_w, i32_w]
        rfl
       refine pure_ (i := 6) (N := some 29) (v := ?_) (a' := ?_) #[tt,tt,tt,tt,tt,tt,tt,ff] rfl rfl (any_of HT_.out (by kernel_rfl)) (fun _ _ _ h => h) (Or.inl ⟨by rfl, ?_⟩) ?_ ?_
       rotate_left
       ·intro w'
        go_simp
        with_reducible rfl
       rotate_left
       ·simp only [Act.put, l_a, l_b, l_c, i64_w, i32_w]
        rfl
       refine last_ (i := 7) (N := none) #[tt,tt,tt,tt,tt,tt,tt,tt] rfl rfl (one_of HT_.out (by kernel_rfl)) (by decide) (fun K hK => ?_)
       have hs24 : w21.cell? ⟨gb636, 0, none⟩ = some (u637000) := (blk_cell BK636.out 0).trans rfl
       have hfs24 := blk_frozen BK636.out 0
       have hns24_0 := NB629_636.out
       have hms24_0 := NB636_629.out
       refine skip_ (w1 := ?_) (by rfl) rfl ?_ ?_
       rotate_left
       ·go_simp
        rfl
       refine hK.out _ _ ?_
       clear hK K
       refine done_ (done_of HT_.out (by kernel_rfl)) ?_
       try go_wp2
       (try (rw [← hji14] at H'))
       go_roundg k1
       case measure => have := HK1.out; omega
       case rel => exact ⟨(wrap64 (x7_1 + 1)), (y640), (.slice Ao23 y640.length co23), (by first | rfl | (simp; done) | (simp [*]; done)), H', ⟨by have := HK1.out; omega⟩, ⟨by (with_reducible repeat (first | apply Kd.S_alloc | apply Kd.S_drewN | apply Kd.S_drew)); exact Kd.S_mono (Kd.S_far (p := ⟨gb636, 0, none⟩) (Kd.S_types HO642.out BK636.out (by decide)) (fun _ hk => hk.2) (.slice Ao23 y640.length co23)) (fun _ hk => trivial)⟩, ⟨by (with_reducible repeat first | refine b_N ?_ _ | refine b_D ?_ | refine b_A ?_ _); refine blk_far ?_ NB629_636.out _; (with_reducible repeat first | refine b_N ?_ _ | refine b_D ?_ | refine b_A ?_ _); exact BK629.out⟩, ⟨by (with_reducible repeat first | refine b_N ?_ _ | refine b_D ?_ | refine b_A ?_ _); refine blk_put (cs := #[u637000]) ?_ 0 _ rfl; (with_reducible repeat first | refine b_N ?_ _ | refine b_D ?_ | refine b_A ?_ _); exact BK636.out⟩, ⟨by repeat (first | (with_reducible first | exact HI0.out | apply IsS135.alloc | apply IsS135.drewN | apply IsS135.drew | apply IsS135.set_1 | apply IsS135.set_2 | refine IsS135.far ?_ NB0_636.out _) | exact HI0.out)⟩, ⟨by repeat (first | (with_reducible first | exact HK.out | apply KeepBut.set_ | apply keep_drewN | apply keep_drew | apply keep_alloc | refine keep_far ?_ GW636.out _) | exact HK.out)⟩, ⟨by repeat (first | (with_reducible first | exact HB.out | apply below_alloc | apply pw_below_drewN | apply below_drew1 | refine below_set ?_ (IsS135.ge HI0.out) | refine below_set ?_ GE636.out) | exact HB.out)⟩⟩
      ·rw [if_neg c17] at H
       exact absurd H (by simp)
     ·rw [if_neg c16] at H
      exact absurd H (by simp)
    ·rw [if_neg c15] at H
     exact absurd H (by simp)
   ·rw [if_neg c13] at H
    have c13b0 : decide (x7_1 < (wrap64 (1 + t630))) = false := decide_eq_false c13
    clear c13
    obtain ⟨y643, hy643⟩ : ∃ y_ : List Int, y_ = (([3, 10, 1000] : List Int)) := ⟨_, rfl⟩
    replace H : ((spec_l00Src_among.f k1 s0_0 t631 t632 y643).bind fun bt646 => (spec_l10DrawOk.l1 k1 (wrap64 (1 + t630)) bt646.1 0 s0_0 bt646.2.1 bt646.2.2 x637000_1)) = some (r1, r2, r3) := by first | (rw [hy643]; with_reducible exact H) | (have H2_ := (Option.bind_some _ _).symm.trans H; rw [hy643]; with_reducible exact H2_) | (have H2_ := (Option.bind_some _ _).symm.trans H; with_reducible exact H2_) | with_reducible exact H | (rw [hy643]; exact H) | exact H
    have Ny643 := Aside0.mk hy643
    clear hy643
    replace H := Option.bind_eq_some_iff.mp H
    obtain ⟨⟨t646, t647, t648⟩, A250, H⟩ := H
    replace H : (spec_l10DrawOk.l1 k1 (wrap64 (1 + t630)) t646 0 s0_0 t647 t648 x637000_1) = some (r1, r2, r3) := H
    have A25 := Aside0.mk A250
    clear A250
    have H' := Aside0.mk H
    clear H
    go_wp2_with (first | ((with_reducible refine gate_dst (N := 31) rfl ?_); refine Kd.R_lit (Kd.int .i64) _ 2 ?hg (N := 31) ?hd (xs := ([3, 10, 1000] : List Int)) (inner := [.int .i64 3, .int .i64 10, .int .i64 1000]) (ok := fun _ => True) (okp := fun _ => True) ?hr ?hp (fun _ hk => hk) trivial (Below.refl _ _) (Nat.le_refl _) (by simp) ?_; (case hd => rfl); (case hg => rfl); (case hr => first | (go_simp; done) | (go_simp; rfl)); (case hp => exact (Reps.one (show Kd.M (Kd.int .i64) _ _ _ 3 [.int .i64 3] from rfl) (Reps.one (show Kd.M (Kd.int .i64) _ _ _ 10 [.int .i64 10] from rfl) (Reps.one (show Kd.M (Kd.int .i64) _ _ _ 1000 [.int .i64 1000] from rfl) (Reps.none _ _))))); intro v644 w26 ho27 hb hg_ hnew_; clear hg_ hnew_; (first | rw [← Ny643.out] at ho27 | (simp only [Int.reduceToNat] at ho27; rw [← Ny643.out] at ho27)); have n0_ := Aside0.mk (Kd.S_elder' (by (with_reducible repeat (first | apply Kd.S_alloc | apply Kd.S_drewN | apply Kd.S_drew)); exact HO_637000.out) (Kd.R_base ho27) hb); have n1_ := Aside0.mk (Kd.R_lower ho27 (keep_size (w := w) (g := g) (row := none) (by repeat (first | (with_reducible first | exact HK.out | apply KeepBut.set_ | apply keep_drewN | apply keep_drew | apply keep_alloc) | exact HK.out)))); have n2_ := Aside0.mk (blk_below (g := gb629) (o := .cells #[.slice none 0 0] 44 (0, 0)) (by (with_reducible repeat first | refine b_N ?_ _ | refine b_D ?_ | refine b_A ?_ _); exact BK629.out) hb); have n3_ := Aside0.mk (blk_below (g := gb636) (o := .cells #[u637000] 44 (0, 0)) (by (with_reducible repeat first | refine b_N ?_ _ | refine b_D ?_ | refine b_A ?_ _); exact BK636.out) hb); have n4_ := Aside0.mk (IsS135.below (by repeat (first | (with_reducible first | exact HI0.out | apply IsS135.alloc | apply IsS135.drewN | apply IsS135.drew | apply IsS135.set_1 | apply IsS135.set_2) | exact HI0.out)) hb); have n5_ := Aside0.mk (KeepBut.trans (by repeat (first | (with_reducible first | exact HK.out | apply KeepBut.set_ | apply keep_drewN | apply keep_drew | apply keep_alloc) | exact HK.out)) (KeepBut.of_below hb g none) (.inl rfl)); have n6_ := Aside0.mk (below_step (by repeat (first | (with_reducible first | exact HB.out | apply below_alloc | apply pw_below_drewN | apply below_drew1 | refine below_set ?_ (IsS135.ge HI0.out)) | exact HB.out)) hb); clear HO_637000; clear BK629; clear BK636; clear HI0; clear HK; clear HB; have HO_637000 := n0_; have HO645 := n1_; have BK629 := n2_; have BK636 := n3_; have HI0 := n4_; have HK := n5_; have HB := n6_; clear n0_ n1_ n2_ n3_ n4_ n5_ n6_; clear hb ho27; obtain ⟨Ao28, co28, eo28⟩ := Kd.R_slice HO645.out; subst eo28) | ((with_reducible refine gate_callee (f := 111) rfl ?_); refine goesL_ (some 32) rfl rfl Try.func111 (by kernel_rfl) rfl #[.pointer (some ⟨g, 0, none⟩), .slice Ao28 y643.length co28] rfl (by (try simp only [List.map_toArray, List.map_cons, List.map_nil]); first | done | rfl | (simp only [List.length_drop, List.length_take]; rfl)) ?_; (with_reducible refine (spec_l00Src_among.calls k1 g s0_0 t631 t632 _ _ y643 t646 t647 t648 w0 _ ?side1 ?side2 ?side3 ?side4 ?side5 A25.out).mono ?_); (case side1 => repeat (first | (with_reducible first | exact HI0.out | apply IsS135.alloc | apply IsS135.drewN | apply IsS135.drew | apply IsS135.set_1 | apply IsS135.set_2) | exact HI0.out)); (case side2 => repeat (first | (with_reducible first | exact HB.out | apply below_alloc | apply pw_below_drewN | apply below_drew1 | refine below_set ?_ (IsS135.ge HI0.out)) | exact HB.out)); (case side3 => repeat (first | exact (Kd.R_reads' HO645.out).2.2 | (with_reducible refine Kd.C_alloc ?_ _) | (with_reducible refine Kd.C_drewN ?_ _) | (with_reducible refine Kd.C_drew ?_))); (case side4 => exact (Kd.R_reads' HO645.out).2.1); (case side5 => exact far_slice (IsS135.own_ne HI0.out HO645.out (by decide))); rintro e w29 ⟨rfl, hi, hb, hk⟩; refine ⟨_, rfl, ?_⟩; have n0_ := Aside0.mk (Kd.S_mono (Kd.S_keep (IsS135.apartS (show IsS135 w0 _ g s0_0 t631 t632 from by repeat (first | (with_reducible first | exact HI0.out | apply IsS135.alloc | apply IsS135.drewN | apply IsS135.drew | apply IsS135.set_1 | apply IsS135.set_2) | exact HI0.out)) (by (with_reducible repeat (first | apply Kd.S_alloc | apply Kd.S_drewN | apply Kd.S_drew)); exact HO_637000.out) (by decide)) hk (fun _ h => h.2)) (fun _ h => h.1)); have n1_ := Aside0.mk (KeepBut.blk hk (g' := gb629) (o := .cells #[.slice none 0 0] 44 (0, 0)) (by (with_reducible repeat first | refine b_N ?_ _ | refine b_D ?_ | refine b_A ?_ _); exact BK629.out) NB629_0.out (by simp)); have n2_ := Aside0.mk (KeepBut.blk hk (g' := gb636) (o := .cells #[u637000] 44 (0, 0)) (by (with_reducible repeat first | refine b_N ?_ _ | refine b_D ?_ | refine b_A ?_ _); exact BK636.out) NB636_0.out (by simp)); have n3_ := Aside0.mk (Kd.R_mono (Kd.R_keep (IsS135.apart (show IsS135 w0 _ g s0_0 t631 t632 from by repeat (first | (with_reducible first | exact HI0.out | apply IsS135.alloc | apply IsS135.drewN | apply IsS135.drew | apply IsS135.set_1 | apply IsS135.set_2) | exact HI0.out)) (by (with_reducible repeat first | apply k_A | apply k_N | apply k_D); exact HO645.out) (by decide)) hk (fun _ h => h.2)) (fun _ h => h.1)); have n4_ := Aside0.mk (KeepBut.trans (by repeat (first | (with_reducible first | exact HK.out | apply KeepBut.set_ | apply keep_drewN | apply keep_drew | apply keep_alloc) | exact HK.out)) hk (.inl rfl)); have n5_ := Aside0.mk (hb); have n6_ := Aside0.mk (hi); clear HO_637000; clear BK629; clear BK636; clear HO645; clear HK; clear HB; clear HI0; have HO_637000 := n0_; have BK629 := n1_; have BK636 := n2_; have HO645 := n3_; have HK := n4_; have HB := n5_; have HI0 := n6_; clear n0_ n1_ n2_ n3_ n4_ n5_ n6_; (try clear hb); (try clear hb2); (try clear hk); (try clear hi)))
    go_loopg [9] k1 (fun kq v9 w' => ∃ (x9_2 : Int) (x1001_2 : Int) (x1002_2 : Int) (x637000_2 : List (List Int)) (u637000 : Value), v9 = .int .i64 x9_2 ∧ Aside0 (spec_l10DrawOk.l1 kq (wrap64 (1 + t630)) t646 x9_2 s0_0 x1001_2 x1002_2 x637000_2 = some (r1, r2, r3)) ∧ Aside0 (kq ≤ k1) ∧ Aside0 (Kd.S (Kd.slice 2 (Kd.int .i64)) 28 w' w.heap.size (fun _ => True) u637000 x637000_2) ∧ Aside0 (w'.heap[gb629]? = some (.cells #[(.slice none 0 0)] 44 (0, 0))) ∧ Aside0 (w'.heap[gb636]? = some (.cells #[u637000] 44 (0, 0))) ∧ Aside0 (IsS135 w0 w' g s0_0 x1001_2 x1002_2) ∧ Aside0 (KeepBut w w' g none) ∧ Aside0 (Below w0.heap.size w0 w'))
    case atStart => exact ⟨(0), (t647), (t648), (x637000_1), (u637000), (by first | rfl | (simp; done) | (simp [*]; done)), H', ⟨Nat.le_refl _⟩, ⟨by (with_reducible repeat (first | apply Kd.S_alloc | apply Kd.S_drewN | apply Kd.S_drew)); exact Kd.S_mono HO_637000.out (fun _ hk => trivial)⟩, ⟨by (with_reducible repeat first | refine b_N ?_ _ | refine b_D ?_ | refine b_A ?_ _); exact BK629.out⟩, ⟨by (with_reducible repeat first | refine b_N ?_ _ | refine b_D ?_ | refine b_A ?_ _); exact BK636.out⟩, ⟨by repeat (first | (with_reducible first | exact HI0.out | apply IsS135.alloc | apply IsS135.drewN | apply IsS135.drew | apply IsS135.set_1 | apply IsS135.set_2) | exact HI0.out)⟩, ⟨by repeat (first | (with_reducible first | exact HK.out | apply KeepBut.set_ | apply keep_drewN | apply keep_drew | apply keep_alloc) | exact HK.out)⟩, ⟨by repeat (first | (with_reducible first | exact HB.out | apply below_alloc | apply pw_below_drewN | apply below_drew1 | refine below_set ?_ (IsS135.ge HI0.out)) | exact HB.out)⟩⟩
    case round =>
     clear H'
     try clear c1
     try clear p2
     try clear p6
     try clear c8
     try clear c10
     try clear c11
     try clear c13
     try clear c13b0
     try clear c15
     try clear c15b0
     try clear c15b1
     try clear c16
     try clear c16b0
     try clear c16b1
     try clear c17
     try clear hcz12_0
     try clear hfz12_0
     try clear p2
     try clear p6
     obtain ⟨x9_2, x1001_2, x1002_2, x637000_2, u637000, rfl, HA, HK2, HO_637000, BK629, BK636, HI0, HK, HB⟩ := hrel
     cases gk with
     | zero => exact absurd HA.out (by simp [spec_l10DrawOk.l1])
     | succ k2 =>
      have H := HA.out
      clear HA
      simp only [spec_l10DrawOk.l1] at H
      by_cases c30 : x9_2 < (wrap64 (1 + t630))
      ·rw [if_pos c30] at H
       have c30b0 : decide (x9_2 < (wrap64 (1 + t630))) = true := decide_eq_true c30
       clear c30
       have H' := Aside0.mk H
       clear H
       go_wp2
       go_loopg [10] k2 (fun kq v10 w' => ∃ (x10_3 : Int) (x1001_3 : Int) (x1002_3 : Int) (x637000_3 : List (List Int)) (u637000 : Value), v10 = .int .i64 x10_3 ∧ Aside0 (spec_l10DrawOk.l2 kq (wrap64 (1 + t630)) t646 x9_2 x10_3 s0_0 x1001_3 x1002_3 x637000_3 = some (r1, r2, r3)) ∧ Aside0 (kq ≤ k2) ∧ Aside0 (Kd.S (Kd.slice 2 (Kd.int .i64)) 28 w' w.heap.size (fun _ => True) u637000 x637000_3) ∧ Aside0 (w'.heap[gb629]? = some (.cells #[(.slice none 0 0)] 44 (0, 0))) ∧ Aside0 (w'.heap[gb636]? = some (.cells #[u637000] 44 (0, 0))) ∧ Aside0 (IsS135 w0 w' g s0_0 x1001_3 x1002_3) ∧ Aside0 (KeepBut w w' g none) ∧ Aside0 (Below w0.heap.size w0 w'))
       case atStart => exact ⟨(0), (x1001_2), (x1002_2), (x637000_2), (u637000), (by first | rfl | (simp; done) | (simp [*]; done)), H', ⟨Nat.le_refl _⟩, ⟨by (with_reducible repeat (first | apply Kd.S_alloc | apply Kd.S_drewN | apply Kd.S_drew)); exact HO_637000.out⟩, ⟨by (with_reducible repeat first | refine b_N ?_ _ | refine b_D ?_ | refine b_A ?_ _); exact BK629.out⟩, ⟨by (with_reducible repeat first | refine b_N ?_ _ | refine b_D ?_ | refine b_A ?_ _); exact BK636.out⟩, ⟨by repeat (first | (with_reducible first | exact HI0.out | apply IsS135.alloc | apply IsS135.drewN | apply IsS135.drew | apply IsS135.set_1 | apply IsS135.set_2) | exact HI0.out)⟩, ⟨by repeat (first | (with_reducible first | exact HK.out | apply KeepBut.set_ | apply keep_drewN | apply keep_drew | apply keep_alloc) | exact HK.out)⟩, ⟨by repeat (first | (with_reducible first | exact HB.out | apply below_alloc | apply pw_below_drewN | apply below_drew1 | refine below_set ?_ (IsS135.ge HI0.out)) | exact HB.out)⟩⟩
       case round =>
        clear H'
        try clear c1
        try clear p2
        try clear c3
        try clear p6
        try clear c8
        try clear c10
        try clear c11
        try clear c13
        try clear c13b0
        try clear c15
        try clear c15b0
        try clear c15b1
        try clear c16
        try clear c16b0
        try clear c16b1
        try clear c17
        try clear c30
        try clear c30b0
        try clear hcz12_0
        try clear hfz12_0
        try clear p2
        try clear p6
        obtain ⟨x10_3, x1001_3, x1002_3, x637000_3, u637000, rfl, HA, HK3, HO_637000, BK629, BK636, HI0, HK, HB⟩ := hrel
        cases gk with
        | zero => exact absurd HA.out (by simp [spec_l10DrawOk.l2])
        | succ k3 =>
         have H := HA.out
         clear HA
         simp only [spec_l10DrawOk.l2] at H
         by_cases c31 : x10_3 < x9_2
         ·rw [if_pos c31] at H
          have c31b0 : decide (x10_3 < x9_2) = true := decide_eq_true c31
          clear c31
          replace H := Option.bind_eq_some_iff.mp H
          obtain ⟨⟨t649, t650, t651⟩, A320, H⟩ := H
          replace H : (if 0 ≤ x9_2 then (if x9_2 < (x637000_3.length : Int) then (if 0 ≤ x10_3 then (if x10_3 < ((rd_Ls2 x637000_3 x9_2).length : Int) then ((some (x637000_3.set (x9_2 : Int).toNat ((rd_Ls2 x637000_3 x9_2).set (x10_3 : Int).toNat t649) : List (List Int))).bind fun y655 => (if x10_3 < (x637000_3.length : Int) then (if x9_2 < ((rd_Ls2 y655 x10_3).length : Int) then (spec_l10DrawOk.l2 k3 (wrap64 (1 + t630)) t646 x9_2 (wrap64 (x10_3 + 1)) s0_0 t650 t651 (y655.set (x10_3 : Int).toNat ((rd_Ls2 y655 x10_3).set (x9_2 : Int).toNat t649))) else (none)) else (none))) else (none)) else (none)) else (none)) else (none)) = some (r1, r2, r3) := H
          have A32 := Aside0.mk A320
          clear A320
          by_cases c33 : 0 ≤ x9_2
          ·rw [if_pos c33] at H
           have c33b0 : decide (0 ≤ x9_2) = true := decide_eq_true c33
           clear c33
           by_cases c34 : x9_2 < (x637000_3.length : Int)
           ·rw [if_pos c34] at H
            have c34b0 : decide (x9_2 < (x637000_3.length : Int)) = true := decide_eq_true c34
            clear c34
            by_cases c35 : 0 ≤ x10_3
            ·rw [if_pos c35] at H
             have c35b0 : decide (0 ≤ x10_3) = true := decide_eq_true c35
             clear c35
             by_cases c36 : x10_3 < ((rd_Ls2 x637000_3 x9_2).length : Int)
             ·rw [if_pos c36] at H
              have c36b0 : decide (x10_3 < ((rd_Ls2 x637000_3 x9_2).length : Int)) = true := decide_eq_true c36
              clear c36
              obtain ⟨y653, hy653⟩ : ∃ y_ : List Int, y_ = ((rd_Ls2 x637000_3 x9_2).set (x10_3 : Int).toNat t649) := ⟨_, rfl⟩
              replace H : ((some (x637000_3.set (x9_2 : Int).toNat y653 : List (List Int))).bind fun y655 => (if x10_3 < (x637000_3.length : Int) then (if x9_2 < ((rd_Ls2 y655 x10_3).length : Int) then (spec_l10DrawOk.l2 k3 (wrap64 (1 + t630)) t646 x9_2 (wrap64 (x10_3 + 1)) s0_0 t650 t651 (y655.set (x10_3 : Int).toNat ((rd_Ls2 y655 x10_3).set (x9_2 : Int).toNat t649))) else (none)) else (none))) = some (r1, r2, r3) := by first | (rw [hy653]; with_reducible exact H) | (have H2_ := (Option.bind_some _ _).symm.trans H; rw [hy653]; with_reducible exact H2_) | (have H2_ := (Option.bind_some _ _).symm.trans H; with_reducible exact H2_) | with_reducible exact H | (rw [hy653]; exact H) | exact H
              have Ny653 := Aside0.mk hy653
              clear hy653
              obtain ⟨y655, hy655⟩ : ∃ y_ : List (List Int), y_ = (x637000_3.set (x9_2 : Int).toNat y653) := ⟨_, rfl⟩
              replace H : (if x10_3 < (x637000_3.length : Int) then (if x9_2 < ((rd_Ls2 y655 x10_3).length : Int) then (spec_l10DrawOk.l2 k3 (wrap64 (1 + t630)) t646 x9_2 (wrap64 (x10_3 + 1)) s0_0 t650 t651 (y655.set (x10_3 : Int).toNat ((rd_Ls2 y655 x10_3).set (x9_2 : Int).toNat t649))) else (none)) else (none)) = some (r1, r2, r3) := by first | (rw [hy655]; with_reducible exact H) | (have H2_ := (Option.bind_some _ _).symm.trans H; rw [hy655]; with_reducible exact H2_) | (have H2_ := (Option.bind_some _ _).symm.trans H; with_reducible exact H2_) | with_reducible exact H | (rw [hy655]; exact H) | exact H
              have Ny655 := Aside0.mk hy655
              clear hy655
              by_cases c38 : x10_3 < (x637000_3.length : Int)
              ·rw [if_pos c38] at H
               have c38b0 : decide (x10_3 < (x637000_3.length : Int)) = true := decide_eq_true c38
               clear c38
               by_cases c39 : x9_2 < ((rd_Ls2 y655 x10_3).length : Int)
               ·rw [if_pos c39] at H
                have c39b0 : decide (x9_2 < ((rd_Ls2 y655 x10_3).length : Int)) = true := decide_eq_true c39
                clear c39
                obtain ⟨y657, hy657⟩ : ∃ y_ : List Int, y_ = ((rd_Ls2 y655 x10_3).set (x9_2 : Int).toNat t649) := ⟨_, rfl⟩
                replace H : (spec_l10DrawOk.l2 k3 (wrap64 (1 + t630)) t646 x9_2 (wrap64 (x10_3 + 1)) s0_0 t650 t651 (y655.set (x10_3 : Int).toNat y657)) = some (r1, r2, r3) := by first | (rw [hy657]; with_reducible exact H) | (have H2_ := (Option.bind_some _ _).symm.trans H; rw [hy657]; with_reducible exact H2_) | (have H2_ := (Option.bind_some _ _).symm.trans H; with_reducible exact H2_) | with_reducible exact H | (rw [hy657]; exact H) | exact H
                have Ny657 := Aside0.mk hy657
                clear hy657
                obtain ⟨y659, hy659⟩ : ∃ y_ : List (List Int), y_ = (y655.set (x10_3 : Int).toNat y657) := ⟨_, rfl⟩
                replace H : (spec_l10DrawOk.l2 k3 (wrap64 (1 + t630)) t646 x9_2 (wrap64 (x10_3 + 1)) s0_0 t650 t651 y659) = some (r1, r2, r3) := by first | (rw [hy659]; with_reducible exact H) | (have H2_ := (Option.bind_some _ _).symm.trans H; rw [hy659]; with_reducible exact H2_) | (have H2_ := (Option.bind_some _ _).symm.trans H; with_reducible exact H2_) | with_reducible exact H | (rw [hy659]; exact H) | exact H
                have Ny659 := Aside0.mk hy659
                clear hy659
                have H' := Aside0.mk H
                clear H
                go_wp2_with (first | ((with_reducible refine gate_callee (f := 88) rfl ?_); refine goesL_ (some 46) rfl rfl Try.func88 (by kernel_rfl) rfl #[.pointer (some ⟨g, 0, none⟩), .int .i64 (wrap64 (t646 + 1))] rfl (by (try simp only [List.map_toArray, List.map_cons, List.map_nil]); first | done | rfl | (simp only [List.length_drop, List.length_take]; rfl)) ?_; (with_reducible refine (spec_l00Src_pick.calls k3 g s0_0 x1001_3 x1002_3 (wrap64 (t646 + 1)) t649 t650 t651 w0 _ ?side1 ?side2 A32.out).mono ?_); (case side1 => repeat (first | (with_reducible first | exact HI0.out | apply IsS135.alloc | apply IsS135.drewN | apply IsS135.drew | apply IsS135.set_1 | apply IsS135.set_2) | exact HI0.out)); (case side2 => repeat (first | (with_reducible first | exact HB.out | apply below_alloc | apply pw_below_drewN | apply below_drew1 | refine below_set ?_ (IsS135.ge HI0.out)) | exact HB.out)); rintro e w41 ⟨rfl, hi, hb, hk⟩; refine ⟨_, rfl, ?_⟩; have n0_ := Aside0.mk (Kd.S_mono (Kd.S_keep (IsS135.apartS (show IsS135 w0 _ g s0_0 x1001_3 x1002_3 from by repeat (first | (with_reducible first | exact HI0.out | apply IsS135.alloc | apply IsS135.drewN | apply IsS135.drew | apply IsS135.set_1 | apply IsS135.set_2) | exact HI0.out)) (by (with_reducible repeat (first | apply Kd.S_alloc | apply Kd.S_drewN | apply Kd.S_drew)); exact HO_637000.out) (by decide)) hk (fun _ h => h.2)) (fun _ h => h.1)); have n1_ := Aside0.mk (KeepBut.blk hk (g' := gb629) (o := .cells #[.slice none 0 0] 44 (0, 0)) (by (with_reducible repeat first | refine b_N ?_ _ | refine b_D ?_ | refine b_A ?_ _); exact BK629.out) NB629_0.out (by simp)); have n2_ := Aside0.mk (KeepBut.blk hk (g' := gb636) (o := .cells #[u637000] 44 (0, 0)) (by (with_reducible repeat first | refine b_N ?_ _ | refine b_D ?_ | refine b_A ?_ _); exact BK636.out) NB636_0.out (by simp)); have n3_ := Aside0.mk (KeepBut.trans (by repeat (first | (with_reducible first | exact HK.out | apply KeepBut.set_ | apply keep_drewN | apply keep_drew | apply keep_alloc) | exact HK.out)) hk (.inl rfl)); have n4_ := Aside0.mk (hb); have n5_ := Aside0.mk (hi); clear HO_637000; clear BK629; clear BK636; clear HK; clear HB; clear HI0; have HO_637000 := n0_; have BK629 := n1_; have BK636 := n2_; have HK := n3_; have HB := n4_; have HI0 := n5_; clear n0_ n1_ n2_ n3_ n4_ n5_; (try clear hb); (try clear hb2); (try clear hk); (try clear hi); have hnb42 := NB636_629.out; have hnc42 := NB629_636.out; have hnb43 := NB636_0.out; have hnc43 := NB0_636.out; have hcz44_0 : w41.cell? ⟨gb636, 0, none⟩ = some (u637000) := (blk_cell BK636.out 0).trans rfl; have hfz44_0 := blk_frozen BK636.out 0; obtain ⟨Ao45, co45, eo45⟩ := Kd.S_slice HO_637000.out; subst eo45; have p652 : 0 ≤ (x9_2 : Int) := of_decide_eq_true (by first | (with_reducible assumption) | assumption); have q652 : x9_2 < (x637000_3.length : Int) := of_decide_eq_true (by first | (with_reducible assumption) | assumption); obtain ⟨ad652, A652_0, c652_0, e652, hx652_0, hl652_0, hi652_0⟩ := at_Ls2 (Kd.S_reads' HO_637000.out).2.2 x9_2 p652 q652; cases e652; obtain ⟨ce652, hce652, hMe652, hcc652⟩ := Kd.S_get HO_637000.out [] x9_2 p652 (by first | exact q652 | exact of_decide_eq_true (by first | (with_reducible assumption) | assumption) | (have e_ := (Kd.S_reads' HO_637000.out).1; omega)); obtain ⟨ve652_0, rfl, ge652_0⟩ := hMe652; have hv652_0 := hcc652 0 _ rfl; rw [Nat.add_zero, show ((Kd.slice 2 (Kd.int .i64))).sz = 1 from rfl, Nat.mul_one] at hv652_0; replace hv652_0 := Option.some.inj (hv652_0.symm.trans hx652_0); rw [hv652_0] at ge652_0; have HL652_0 := Aside0.mk (show Kd.R (Kd.int .i64) 2 _ _ _ _ (rd_Ls2 x637000_3 x9_2) from ge652_0); clear hv652_0 ge652_0; have HX652_0 := Aside0.mk hx652_0; clear hcc652 hce652; have HR652_0 := Aside0.mk hi652_0; have HC652_0 := Aside0.mk hl652_0; clear hi652_0 hl652_0; replace p652 := eq_true p652; replace q652 := eq_true q652; have p37 : 0 ≤ (x10_3 : Int) := of_decide_eq_true (by first | (with_reducible assumption) | assumption); have q37 : (x10_3 : Int) < (((rd_Ls2 x637000_3 x9_2).length : Int) : Int) := of_decide_eq_true (by first | (with_reducible assumption) | assumption); obtain ⟨go37, co37, eo37, gb37, gl37, cl37, HG37⟩ := Kd.R_form HL652_0.out (by omega); (first | cases eo37 | (injection eo37 with ea_ en_ ec_; (first | subst ea_ | (injection ea_ with ea_; subst ea_)); subst ec_; clear en_)); have GB37 := Aside0.mk gb37; have GG37 := Aside0.mk HG37; clear gb37 gl37 HG37; obtain ⟨hx37_0, hf37_0⟩ := Kd.R_celln 0 HL652_0.out (x10_3 : Int) p37 q37; replace p37 := eq_true p37; replace q37 := eq_true q37; have hq46 : (x9_2 : Int) < (x637000_3.length : Int) := (by have h_ : (x9_2 : Int) < ((x637000_3.length : Int) : Int) := of_decide_eq_true (by first | (with_reducible assumption) | assumption); first | exact h_ | (have e_ := (Kd.S_reads' HO_637000.out).1; omega) | simpa only [List.length_set, List.length_set] using h_); obtain ⟨oki46, ce46, hcl46, hM46, hcc46, hok46, hbk46⟩ := Kd.S_borrow HO_637000.out [] (x9_2 : Int) (of_decide_eq_true (by first | (with_reducible assumption) | assumption)) hq46; obtain ⟨ve46_0, rfl, ge46_0⟩ := hM46; have hv46 := hcc46 0 _ rfl; rw [Nat.add_zero, show ((Kd.slice 2 (Kd.int .i64))).sz = 1 from rfl, Nat.mul_one] at hv46; replace hv46 := Option.some.inj (hv46.symm.trans HX652_0.out); subst hv46; clear hcc46 hcl46; replace ge46_0 := (show Kd.R (Kd.int .i64) 2 _ _ _ _ (rd_Ls2 x637000_3 x9_2) from ge46_0); have HP46 := Kd.R_putg ge46_0 (x10_3 : Int) t649) | ((with_reducible refine gate_store (t := 2) (p := 54) rfl ?_); refine store_event (t := 2) (p := 54) (v := ?vo_w47) (w1 := (w41.setCell ⟨go37, (x10_3 : Int).toNat, none⟩ (.int .i64 t649))) ?hg ?ho ?hn ?hr ?_; (case ho => rfl); (case hg => rfl); (case hn => rfl); (case hr => first | (go_simp; done) | (go_simp; rfl)); intro w47 hw; have hg : w41.grownBy w47 (some go37) := (by rw [hw]; exact HP46.2); have hz_ : Kd.R (Kd.int .i64) 2 w47 w.heap.size oki46 (.slice (some ⟨go37, 0, none⟩) (rd_Ls2 x637000_3 x9_2).length c652_0) y653 := (by rw [hw, Ny653.out]; exact HP46.1); have hp_ : Kd.S (Kd.slice 2 (Kd.int .i64)) 28 w47 w.heap.size (fun _ => True) (.slice (some ad652) x637000_3.length co45) y655 := (by rw [Ny655.out]; exact hbk46 hg (fun k_ e_ => by injection e_ with e_; subst e_; exact ge46_0.1 _ rfl) (Kd.M_row hz_)); have hm_ := Kd.R_mono hz_ hok46; clear HP46 hbk46; have n0_ := Aside0.mk (hp_); have n1_ := Aside0.mk (blk_grown (g := gb629) (o := .cells #[.slice none 0 0] 44 (0, 0)) (by (with_reducible repeat first | refine b_N ?_ _ | refine b_D ?_ | refine b_A ?_ _); exact BK629.out) hg (Kd.R_ne HL652_0.out BK629.out (by decide))); have n2_ := Aside0.mk (blk_grown (g := gb636) (o := .cells #[.slice (some ad652) x637000_3.length co45] 44 (0, 0)) (by (with_reducible repeat first | refine b_N ?_ _ | refine b_D ?_ | refine b_A ?_ _); exact BK636.out) hg (Kd.R_ne HL652_0.out BK636.out (by decide))); have n3_ := Aside0.mk (IsS135.grown (by repeat (first | (with_reducible first | exact HI0.out | apply IsS135.alloc | apply IsS135.drewN | apply IsS135.drew | apply IsS135.set_1 | apply IsS135.set_2) | exact HI0.out)) hg (IsS135.own_ne HI0.out HL652_0.out (by decide))); have n4_ := Aside0.mk ((by rw [hw]; exact below_set (HB.out) (Nat.le_trans HL.out GB37.out) : Below w0.heap.size w0 w47)); have n5_ := Aside0.mk (KeepBut.trans (by repeat (first | (with_reducible first | exact HK.out | apply KeepBut.set_ | apply keep_drewN | apply keep_drew | apply keep_alloc) | exact HK.out)) (KeepBut.of_grown hg g) (Kd.R_base2 HL652_0.out)); have n6_ := Aside0.mk (hm_); have n7_ := Aside0.mk ((Kd.R_reads' hm_).2.1); clear HO_637000; clear BK629; clear BK636; clear HI0; clear HB; clear HK; clear HL652_0; have HO_637000 := n0_; have BK629 := n1_; have BK636 := n2_; have HI0 := n3_; have HB := n4_; have HK := n5_; have HL660 := n6_; have HC654 := n7_; clear n0_ n1_ n2_ n3_ n4_ n5_ n6_ n7_; clear hg hw hp_ hz_ hm_ hok46; have hcz48_0 : w47.cell? ⟨gb636, 0, none⟩ = some (.slice (some ad652) x637000_3.length co45) := (blk_cell BK636.out 0).trans rfl; have hfz48_0 := blk_frozen BK636.out 0; have p656 : 0 ≤ (x10_3 : Int) := of_decide_eq_true (by first | (with_reducible assumption) | assumption); have q656 : x10_3 < (y655.length : Int) := (by have h_ : (x10_3 : Int) < ((x637000_3.length : Int) : Int) := of_decide_eq_true (by first | (with_reducible assumption) | assumption); first | (have e_ := (Kd.S_reads' HO_637000.out).1; omega) | simpa only [Ny655.out, List.length_set] using h_); have ql656 : ((x10_3 : Int) < ((x637000_3.length : Int) : Int)) = True := eq_true (of_decide_eq_true (by first | (with_reducible assumption) | assumption)); obtain ⟨ad656, A656_0, c656_0, e656, hx656_0, hl656_0, hi656_0⟩ := at_Ls2 (Kd.S_reads' HO_637000.out).2.2 x10_3 p656 q656; obtain rfl : ad652 = ad656 := (by injection e656); obtain ⟨ce656, hce656, hMe656, hcc656⟩ := Kd.S_get HO_637000.out [] x10_3 p656 (by first | exact q656 | exact of_decide_eq_true (by first | (with_reducible assumption) | assumption) | (have e_ := (Kd.S_reads' HO_637000.out).1; omega)); obtain ⟨ve656_0, rfl, ge656_0⟩ := hMe656; have hv656_0 := hcc656 0 _ rfl; rw [Nat.add_zero, show ((Kd.slice 2 (Kd.int .i64))).sz = 1 from rfl, Nat.mul_one] at hv656_0; replace hv656_0 := Option.some.inj (hv656_0.symm.trans hx656_0); rw [hv656_0] at ge656_0; have HL656_0 := Aside0.mk (show Kd.R (Kd.int .i64) 2 _ _ _ _ (rd_Ls2 y655 x10_3) from ge656_0); clear hv656_0 ge656_0; have HX656_0 := Aside0.mk hx656_0; clear hcc656 hce656; have HR656_0 := Aside0.mk hi656_0; have HC656_0 := Aside0.mk hl656_0; clear hi656_0 hl656_0; replace p656 := eq_true p656; replace q656 := eq_true q656; have p40 : 0 ≤ (x9_2 : Int) := of_decide_eq_true (by first | (with_reducible assumption) | assumption); have q40 : (x9_2 : Int) < (((rd_Ls2 y655 x10_3).length : Int) : Int) := of_decide_eq_true (by first | (with_reducible assumption) | assumption); obtain ⟨go40, co40, eo40, gb40, gl40, cl40, HG40⟩ := Kd.R_form HL656_0.out (by omega); (first | cases eo40 | (injection eo40 with ea_ en_ ec_; (first | subst ea_ | (injection ea_ with ea_; subst ea_)); subst ec_; clear en_)); have GB40 := Aside0.mk gb40; have GG40 := Aside0.mk HG40; clear gb40 gl40 HG40; obtain ⟨hx40_0, hf40_0⟩ := Kd.R_celln 0 HL656_0.out (x9_2 : Int) p40 q40; replace p40 := eq_true p40; replace q40 := eq_true q40; have hq49 : (x10_3 : Int) < (x637000_3.length : Int) := (by have h_ : (x10_3 : Int) < ((x637000_3.length : Int) : Int) := of_decide_eq_true (by first | (with_reducible assumption) | assumption); first | exact h_ | (have e_ := (Kd.S_reads' HO_637000.out).1; omega) | simpa only [Ny655.out, List.length_set] using h_); obtain ⟨oki49, ce49, hcl49, hM49, hcc49, hok49, hbk49⟩ := Kd.S_borrow HO_637000.out [] (x10_3 : Int) (of_decide_eq_true (by first | (with_reducible assumption) | assumption)) hq49; obtain ⟨ve49_0, rfl, ge49_0⟩ := hM49; have hv49 := hcc49 0 _ rfl; rw [Nat.add_zero, show ((Kd.slice 2 (Kd.int .i64))).sz = 1 from rfl, Nat.mul_one] at hv49; replace hv49 := Option.some.inj (hv49.symm.trans HX656_0.out); subst hv49; clear hcc49 hcl49; replace ge49_0 := (show Kd.R (Kd.int .i64) 2 _ _ _ _ (rd_Ls2 y655 x10_3) from ge49_0); have HP49 := Kd.R_putg ge49_0 (x9_2 : Int) t649) | ((with_reducible refine gate_store (t := 2) (p := 62) rfl ?_); refine store_event (t := 2) (p := 62) (v := ?vo_w50) (w1 := (w47.setCell ⟨go40, (x9_2 : Int).toNat, none⟩ (.int .i64 t649))) ?hg ?ho ?hn ?hr ?_; (case ho => rfl); (case hg => rfl); (case hn => rfl); (case hr => first | (go_simp; done) | (go_simp; rfl)); intro w50 hw; have hg : w47.grownBy w50 (some go40) := (by rw [hw]; exact HP49.2); have hz_ : Kd.R (Kd.int .i64) 2 w50 w.heap.size oki49 (.slice (some ⟨go40, 0, none⟩) (rd_Ls2 y655 x10_3).length c656_0) y657 := (by rw [hw, Ny657.out]; exact HP49.1); have hp_ : Kd.S (Kd.slice 2 (Kd.int .i64)) 28 w50 w.heap.size (fun _ => True) (.slice (some ad652) x637000_3.length co45) y659 := (by rw [Ny659.out]; exact hbk49 hg (fun k_ e_ => by injection e_ with e_; subst e_; exact ge49_0.1 _ rfl) (Kd.M_row hz_)); have hm_ := Kd.R_mono hz_ hok49; clear HP49 hbk49; have n0_ := Aside0.mk (hp_); have n1_ := Aside0.mk (blk_grown (g := gb629) (o := .cells #[.slice none 0 0] 44 (0, 0)) (by (with_reducible repeat first | refine b_N ?_ _ | refine b_D ?_ | refine b_A ?_ _); exact BK629.out) hg (Kd.R_ne HL656_0.out BK629.out (by decide))); have n2_ := Aside0.mk (blk_grown (g := gb636) (o := .cells #[.slice (some ad652) x637000_3.length co45] 44 (0, 0)) (by (with_reducible repeat first | refine b_N ?_ _ | refine b_D ?_ | refine b_A ?_ _); exact BK636.out) hg (Kd.R_ne HL656_0.out BK636.out (by decide))); have n3_ := Aside0.mk (IsS135.grown (by repeat (first | (with_reducible first | exact HI0.out | apply IsS135.alloc | apply IsS135.drewN | apply IsS135.drew | apply IsS135.set_1 | apply IsS135.set_2) | exact HI0.out)) hg (IsS135.own_ne HI0.out HL656_0.out (by decide))); have n4_ := Aside0.mk ((by rw [hw]; exact below_set (HB.out) (Nat.le_trans HL.out GB40.out) : Below w0.heap.size w0 w50)); have n5_ := Aside0.mk (KeepBut.trans (by repeat (first | (with_reducible first | exact HK.out | apply KeepBut.set_ | apply keep_drewN | apply keep_drew | apply keep_alloc) | exact HK.out)) (KeepBut.of_grown hg g) (Kd.R_base2 HL656_0.out)); have n6_ := Aside0.mk (hm_); have n7_ := Aside0.mk ((Kd.R_reads' hm_).2.1); clear HO_637000; clear BK629; clear BK636; clear HI0; clear HB; clear HK; clear HL660; clear HL656_0; have HO_637000 := n0_; have BK629 := n1_; have BK636 := n2_; have HI0 := n3_; have HB := n4_; have HK := n5_; have HL661 := n6_; have HC658 := n7_; clear n0_ n1_ n2_ n3_ n4_ n5_ n6_ n7_; clear hg hw hp_ hz_ hm_ hok49))
                go_roundg k3
                case measure => have := HK1.out; have := HK2.out; have := HK3.out; omega
                case rel => exact ⟨(wrap64 (x10_3 + 1)), (t650), (t651), (y659), (.slice (some ad652) x637000_3.length co45), (by first | rfl | (simp; done) | (simp [*]; done)), H', ⟨by have := HK1.out; have := HK2.out; have := HK3.out; omega⟩, ⟨by (with_reducible repeat (first | apply Kd.S_alloc | apply Kd.S_drewN | apply Kd.S_drew)); exact HO_637000.out⟩, ⟨by (with_reducible repeat first | refine b_N ?_ _ | refine b_D ?_ | refine b_A ?_ _); exact BK629.out⟩, ⟨by (with_reducible repeat first | refine b_N ?_ _ | refine b_D ?_ | refine b_A ?_ _); exact BK636.out⟩, ⟨by repeat (first | (with_reducible first | exact HI0.out | apply IsS135.alloc | apply IsS135.drewN | apply IsS135.drew | apply IsS135.set_1 | apply IsS135.set_2) | exact HI0.out)⟩, ⟨by repeat (first | (with_reducible first | exact HK.out | apply KeepBut.set_ | apply keep_drewN | apply keep_drew | apply keep_alloc) | exact HK.out)⟩, ⟨by repeat (first | (with_reducible first | exact HB.out | apply below_alloc | apply pw_below_drewN | apply below_drew1 | refine below_set ?_ (IsS135.ge HI0.out)) | exact HB.out)⟩⟩
               ·rw [if_neg c39] at H
                exact absurd H (by simp)
              ·rw [if_neg c38] at H
               exact absurd H (by simp)
             ·rw [if_neg c36] at H
              exact absurd H (by simp)
            ·rw [if_neg c35] at H
             exact absurd H (by simp)
           ·rw [if_neg c34] at H
            exact absurd H (by simp)
          ·rw [if_neg c33] at H
           exact absurd H (by simp)
         ·rw [if_neg c31] at H
          have c31b0 : decide (x10_3 < x9_2) = false := decide_eq_false c31
          clear c31
          have H' := Aside0.mk H
          clear H
          go_wp2
          go_roundg k3
          case measure => have := HK1.out; have := HK2.out; have := HK3.out; omega
          case rel => exact ⟨(wrap64 (x9_2 + 1)), (x1001_3), (x1002_3), (x637000_3), (u637000), (by first | rfl | (simp; done) | (simp [*]; done)), H', ⟨by have := HK1.out; have := HK2.out; have := HK3.out; omega⟩, ⟨by (with_reducible repeat (first | apply Kd.S_alloc | apply Kd.S_drewN | apply Kd.S_drew)); exact HO_637000.out⟩, ⟨by (with_reducible repeat first | refine b_N ?_ _ | refine b_D ?_ | refine b_A ?_ _); exact BK629.out⟩, ⟨by (with_reducible repeat first | refine b_N ?_ _ | refine b_D ?_ | refine b_A ?_ _); exact BK636.out⟩, ⟨by repeat (first | (with_reducible first | exact HI0.out | apply IsS135.alloc | apply IsS135.drewN | apply IsS135.drew | apply IsS135.set_1 | apply IsS135.set_2) | exact HI0.out)⟩, ⟨by repeat (first | (with_reducible first | exact HK.out | apply KeepBut.set_ | apply keep_drewN | apply keep_drew | apply keep_alloc) | exact HK.out)⟩, ⟨by repeat (first | (with_reducible first | exact HB.out | apply below_alloc | apply pw_below_drewN | apply below_drew1 | refine below_set ?_ (IsS135.ge HI0.out)) | exact HB.out)⟩⟩
      ·rw [if_neg c30] at H
       have c30b0 : decide (x9_2 < (wrap64 (1 + t630))) = false := decide_eq_false c30
       clear c30
       simp only [Option.some.injEq, Prod.mk.injEq] at H
       obtain ⟨rfl, rfl, rfl⟩ := H
       have hnb51 := NB636_629.out
       have hnc51 := NB629_636.out
       have hnb52 := NB636_0.out
       have hnc52 := NB0_636.out
       have hcz53_0 : wr.cell? ⟨gb636, 0, none⟩ = some (u637000) := (blk_cell BK636.out 0).trans rfl
       have hfz53_0 := blk_frozen BK636.out 0
       obtain ⟨Ao54, co54, eo54⟩ := Kd.S_slice HO_637000.out
       subst eo54
       have hnb55 := NB629_0.out
       have hnc55 := NB0_629.out
       have hcz56_0 : wr.cell? ⟨gb629, 0, none⟩ = some (.slice none 0 0) := (blk_cell BK629.out 0).trans rfl
       have hfz56_0 := blk_frozen BK629.out 0
       go_wp2
       refine bodyPost_ret (results_cell_row rfl _ _ gb629 44 #[.slice Ao54 x637000_2.length co54] (0, 0) _ rfl (by (with_reducible repeat first | refine b_N ?_ _ | refine b_D ?_ | refine b_A ?_ _); refine blk_put (cs := #[.slice none 0 0]) ?_ 0 _ rfl; (with_reducible repeat first | refine b_N ?_ _ | refine b_D ?_ | refine b_A ?_ _); exact BK629.out) Try.underlying44 rfl (by kernel_rfl)) rfl ?_
       exact ⟨_, by first | rfl | (simp [errW_none, errW_some] <;> rfl) | (simp [*, errW_none, errW_some] <;> rfl), by (with_reducible repeat (first | apply Kd.S_alloc | apply Kd.S_drewN | apply Kd.S_drew)); exact Kd.S_mono (Kd.S_far (p := ⟨gb629, 0, none⟩) (Kd.S_types HO_637000.out BK629.out (by decide)) (fun _ hk => hk.2) (.slice Ao54 x637000_2.length co54)) (fun _ hk => trivial), by repeat (first | (with_reducible first | exact HI0.out | apply IsS135.alloc | apply IsS135.drewN | apply IsS135.drew | apply IsS135.set_1 | apply IsS135.set_2 | refine IsS135.far ?_ NB0_629.out _) | exact HI0.out), by repeat (first | (with_reducible first | exact HB.out | apply below_alloc | apply pw_below_drewN | apply below_drew1 | refine below_set ?_ (IsS135.ge HI0.out) | refine below_set ?_ GE629.out) | exact HB.out), by repeat (first | (with_reducible first | exact HK.out | apply KeepBut.set_ | apply keep_drewN | apply keep_drew | apply keep_alloc | refine keep_far ?_ GW629.out _) | exact HK.out)⟩

end Go.Proofs.Ytaapbnhggfmlpaa.P
end
section
namespace Go.Proofs.Ytaapbnhggfmlpaa.P
open Go.RowKit Go.Proofs.YtaapbnhggfmlpaaW.PrintWords Go.Proofs.YtaapbnhggfmlpaaW.PrintLast Go.Proofs.YtaapbnhggfmlpaaW.PrintMore
attribute [local go_sem] max2_int min2_int max_two min_two max_three min_three max_four min_four   -- for this text's walks alone
set_option linter.unusedVariables false
set_option linter.unusedSimpArgs false

/-! ### spec_R8Bundle: function 36 -/
def spec_R8Bundle.f (k : Nat) (l0 : List Int) : Option ((List (List Int))) := (spec_l00From.f l0).bind fun bt663 => ((spec_l10DrawOk.f k bt663.1 bt663.2.1 bt663.2.2 6).bind fun bt667 => (some bt667.1))
theorem spec_R8Bundle.mono : ∀ a0 k, LeO (spec_R8Bundle.f k a0) (spec_R8Bundle.f (k + 1) a0) := by
 intro a0 k
 unfold spec_R8Bundle.f
 repeat' first
   | (with_reducible exact spec_l10DrawOk.mono _ _ _ _ _)
   | (with_reducible exact LeO.refl _)
   | (with_reducible exact LeO.none _)
   | (with_reducible refine LeO.ite ?_ ?_)
   | (with_reducible refine LeO.bind ?_ (fun _ => ?_))
   | exact spec_l10DrawOk.mono _ _ _ _ _
   | exact LeO.none _
   | refine LeO.ite ?_ ?_
   | refine LeO.bind ?_ (fun _ => ?_)
set_option maxHeartbeats 4000000 in
set_option maxRecDepth 100000 in
theorem spec_R8Bundle.calls (k : Nat) (A0 : Option Addr) (c0 : Nat) (l0 : List Int) (r : List (List Int)) (w : World) (hr0 : Kd.C (Kd.int .u8) w A0 l0.length l0) (hc0 : l0.length ≤ c0) (h : spec_R8Bundle.f k l0 = some r) :
  Calls Try.prog 36 #[.slice A0 l0.length c0] w fun e w' => ∃ v0_ : Value, e = .returned (.agg #[v0_]) ∧ Kd.S (Kd.slice 2 (Kd.int .i64)) 28 w' w.heap.size (fun _ => True) v0_ r ∧ Below w.heap.size w w' := by
 have hu44 := Try.underlying44
 have HR0 := Aside0.mk hr0
 have HC0 := Aside0.mk hc0
 clear hr0 hc0
 have HB := Aside0.mk (Below.refl w.heap.size w)
 have H : ((spec_l00From.f l0).bind fun bt663 => ((spec_l10DrawOk.f k bt663.1 bt663.2.1 bt663.2.2 6).bind fun bt667 => (some bt667.1))) = some r := h
 clear h
 replace H := Option.bind_eq_some_iff.mp H
 obtain ⟨⟨t663, t664, t665⟩, A20, H⟩ := H
 replace H : ((spec_l10DrawOk.f k t663 t664 t665 6).bind fun bt667 => (some bt667.1)) = some r := H
 have A2 := Aside0.mk A20
 clear A20
 replace H := Option.bind_eq_some_iff.mp H
 obtain ⟨⟨t667, t670, t671⟩, A30, H⟩ := H
 replace H : (some t667) = some r := H
 have A3 := Aside0.mk A30
 clear A30
 obtain rfl := Option.some.inj H
 go_enter Try.func36, Try.ntmps36
 go_wp2_with (first | ((with_reducible refine gate_dst (N := 2) rfl ?_); refine box_event ?hg (N := 2) ?hd (cs := #[.slice none 0 0]) (t := 44) ?hr ?_; (case hd => rfl); (case hg => rfl); (case hr => first | (go_simp; done) | (go_simp; rfl)); intro gb662 hg w4 hbox hb; have n0_ := Aside0.mk (below_step (by repeat (first | (with_reducible first | exact HB.out | apply below_alloc | apply pw_below_drewN | apply below_drew1) | exact HB.out)) hb); have n1_ := Aside0.mk (hbox); have n2_ := Aside0.mk ((by rw [hg]; exact (below_size (by repeat (first | (with_reducible first | exact HB.out | apply below_alloc | apply pw_below_drewN | apply below_drew1) | exact HB.out))) : w.heap.size ≤ gb662)); have n3_ := Aside0.mk ((by rw [hg]; exact (below_size (by repeat (first | (with_reducible first | exact HB.out | apply below_alloc | apply pw_below_drewN | apply below_drew1) | exact HB.out))) : w.heap.size ≤ gb662)); clear HB; have HB := n0_; have BK662 := n1_; have GW662 := n2_; have GE662 := n3_; clear n0_ n1_ n2_ n3_; clear hb hbox hg) | ((with_reducible refine gate_callee (f := 59) rfl ?_); refine goesL_ (some 5) rfl rfl Try.func59 (by kernel_rfl) rfl #[.slice A0 l0.length c0] rfl (by (try simp only [List.map_toArray, List.map_cons, List.map_nil]); first | done | rfl | (simp only [List.length_drop, List.length_take]; rfl)) ?_; (with_reducible refine (spec_l00From.calls _ _ l0 t663 t664 t665 w _ ?side1 ?side2 ?side3 A2.out).mono ?_); (case side1 => repeat (first | (with_reducible first | exact HB.out | apply below_alloc | apply pw_below_drewN | apply below_drew1) | exact HB.out)); (case side2 => exact HR0.out); (case side3 => exact HC0.out); rintro e w5 ⟨g666, rfl, hi, hb, hb2⟩; refine ⟨_, rfl, ?_⟩; have n0_ := Aside0.mk (blk_below (g := gb662) (o := .cells #[.slice none 0 0] 44 (0, 0)) (by (with_reducible repeat first | refine b_N ?_ _ | refine b_D ?_ | refine b_A ?_ _); exact BK662.out) hb2); have n1_ := Aside0.mk (hb); have n2_ := Aside0.mk (hi); have n3_ := Aside0.mk (IsS135.ne_blk hi (blk_below (g := gb662) (o := .cells #[.slice none 0 0] 44 (0, 0)) (by (with_reducible repeat first | refine b_N ?_ _ | refine b_D ?_ | refine b_A ?_ _); exact BK662.out) hb2) (by decide)); have n4_ := Aside0.mk (Ne.symm (IsS135.ne_blk hi (blk_below (g := gb662) (o := .cells #[.slice none 0 0] 44 (0, 0)) (by (with_reducible repeat first | refine b_N ?_ _ | refine b_D ?_ | refine b_A ?_ _); exact BK662.out) hb2) (by decide))); clear BK662; clear HB; have BK662 := n0_; have HB := n1_; have HI666 := n2_; have NB666_662 := n3_; have NB662_666 := n4_; clear n0_ n1_ n2_ n3_ n4_; (try clear hb); (try clear hb2); (try clear hk); (try clear hi)) | ((with_reducible refine gate_callee (f := 87) rfl ?_); refine goesL_ (some 7) rfl rfl Try.func87 (by kernel_rfl) rfl #[.pointer (some ⟨g666, 0, none⟩), .int .i64 6] rfl (by (try simp only [List.map_toArray, List.map_cons, List.map_nil]); first | done | rfl | (simp only [List.length_drop, List.length_take]; rfl)) ?_; (with_reducible refine (spec_l10DrawOk.calls k g666 t663 t664 t665 6 t667 t670 t671 w _ ?side1 ?side2 A3.out).mono ?_); (case side1 => repeat (first | (with_reducible first | exact HI666.out | apply IsS135.alloc | apply IsS135.drewN | apply IsS135.drew | apply IsS135.set_1 | apply IsS135.set_2) | exact HI666.out)); (case side2 => repeat (first | (with_reducible first | exact HB.out | apply below_alloc | apply pw_below_drewN | apply below_drew1 | refine below_set ?_ (IsS135.ge HI666.out)) | exact HB.out)); rintro e w6 ⟨v668, rfl, ho0, hi, hb, hk⟩; refine ⟨_, rfl, ?_⟩; have n0_ := Aside0.mk (KeepBut.blk hk (g' := gb662) (o := .cells #[.slice none 0 0] 44 (0, 0)) (by (with_reducible repeat first | refine b_N ?_ _ | refine b_D ?_ | refine b_A ?_ _); exact BK662.out) NB662_666.out (by simp)); have n1_ := Aside0.mk (Kd.S_lower ho0 (below_size (by repeat (first | (with_reducible first | exact HB.out | apply below_alloc | apply pw_below_drewN | apply below_drew1 | refine below_set ?_ (IsS135.ge HI666.out)) | exact HB.out)))); have n2_ := Aside0.mk (hb); have n3_ := Aside0.mk (hi); clear BK662; clear HB; clear HI666; have BK662 := n0_; have HO669 := n1_; have HB := n2_; have HI666 := n3_; clear n0_ n1_ n2_ n3_; (try clear hb); (try clear hb2); (try clear hk); (try clear hi); (try clear ho0); obtain ⟨Ao7, co7, eo7⟩ := Kd.S_slice HO669.out; subst eo7; have hnb8 := NB662_666.out; have hnc8 := NB666_662.out; have hcz9_0 : w6.cell? ⟨gb662, 0, none⟩ = some (.slice none 0 0) := (blk_cell BK662.out 0).trans rfl; have hfz9_0 := blk_frozen BK662.out 0))
 refine bodyPost_ret (results_cell_row rfl _ _ gb662 44 #[.slice Ao7 t667.length co7] (0, 0) _ rfl (by (with_reducible repeat first | refine b_N ?_ _ | refine b_D ?_ | refine b_A ?_ _); refine blk_put (cs := #[.slice none 0 0]) ?_ 0 _ rfl; (with_reducible repeat first | refine b_N ?_ _ | refine b_D ?_ | refine b_A ?_ _); exact BK662.out) Try.underlying44 rfl (by kernel_rfl)) rfl ?_
 exact ⟨_, by first | rfl | (simp [errW_none, errW_some] <;> rfl) | (simp [*, errW_none, errW_some] <;> rfl), by (with_reducible repeat (first | apply Kd.S_alloc | apply Kd.S_drewN | apply Kd.S_drew)); exact Kd.S_mono (Kd.S_far (p := ⟨gb662, 0, none⟩) (Kd.S_types HO669.out BK662.out (by decide)) (fun _ hk => hk.2) (.slice Ao7 t667.length co7)) (fun _ hk => trivial), by repeat (first | (with_reducible first | exact HB.out | apply below_alloc | apply pw_below_drewN | apply below_drew1 | refine below_set ?_ (IsS135.ge HI666.out) | refine below_set ?_ GE662.out) | exact HB.out)⟩

end Go.Proofs.Ytaapbnhggfmlpaa.P
end
