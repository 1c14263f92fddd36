/- The law FnExactBestOrder holds for every input. -/
import Derived.Test.YtaapbnhggfmlpaaExOrdQ7
import Derived.Test.YtaapbnhggfmlpaaExOrdQ1
import Derived.Test.YtaapbnhggfmlpaaExOrdQ2
import Derived.Laws.BitsLemmas
import Derived.Test.YtaapbnhggfmlpaaExOrdQ4
import Derived.Test.YtaapbnhggfmlpaaExOrdQ6
import Derived.Deep.Matrix
import Derived.Lib.SmallJoins
import Derived.Test.YtaapbnhggfmlpaaRows
import Derived.WalkKit
import Derived.ProofKit
import Derived.OpenShut
import Derived.ShutString
import Derived.ChangeOld
import Derived.Below
import Derived.SizedLaws
section
set_option linter.unusedVariables false
namespace Go.Proofs.Ytaapbnhggfmlpaa.B
open Go.RowKit Go.Proofs.Ytaapbnhggfmlpaa.P Go.Proofs.YtaapbnhggfmlpaaW.PrintWords Go.Proofs.YtaapbnhggfmlpaaW.PrintLast Go.Proofs.YtaapbnhggfmlpaaW.PrintMore Go.Proofs.Ytaapbnhggfmlpaa.A Go.Proofs.Ytaapbnhggfmlpaa.M
attribute [local irreducible] lf
theorem few : ∀ (N : Nat) (xs : List Nat), xs.Nodup → (∀ x ∈ xs, x < N) → xs.length ≤ N := by
  intro N
  induction N with
  | zero =>
    intro xs _ h
    cases xs with
    | nil => simp
    | cons x xs => exact absurd (h x (List.mem_cons_self ..)) (by omega)
  | succ N ih =>
    intro xs hd h
    have h1 : (xs.erase N).length ≤ N := ih (xs.erase N) (hd.erase N) fun x hx => by
      have h2 := h x (List.mem_of_mem_erase hx)
      have h3 : x ≠ N := fun e => by
        subst e
        exact (hd.not_mem_erase) hx
      omega
    have := List.length_erase (a := N) (l := xs)
    split at this <;> omega
section
variable {l : List (List Int)} {fin : Int} {cn : Nat} {tab : List Int} {r : List Int × Int} {first least : Int}
theorem addS_nd {E w s : Nat} {nx : List Nat} {goal : Int} (h : nx.Nodup) : (addS l fin E w nx s goal).Nodup := by
  unfold addS
  by_cases c : goal < 0 ∨ lf l fin ⟨E, w, s⟩ ≠ goal ∨ s ∈ nx
  · rw [if_pos c]; exact h
  · rw [if_neg c, List.nodup_append]
    refine ⟨h, by simp, fun x hx y hy => ?_⟩
    obtain rfl := List.mem_singleton.1 hy
    rintro rfl
    exact c (.inr (.inr hx))
theorem foldS_nd {D L w : Nat} : ∀ (sk nx : List Nat), nx.Nodup → (sk.foldl (stepS l fin D L w) nx).Nodup
  | [], nx, h => h
  | s :: sk, nx, h => by
    rw [List.foldl_cons]
    refine foldS_nd sk _ ?_
    unfold stepS
    split
    · exact addS_nd (addS_nd h)
    · exact addS_nd h
theorem fol1 (V : Valid l) : ∀ (d kk D L : Nat) (out gl : List Int) (sk : List Nat), d ≤ kk → ucnt l.length D = d → out.length + d = l.length → Rnd l fin cn tab D L out gl sk → sk ≠ [] → (∀ s ∈ sk, 0 ≤ lf l fin ⟨D, L, s⟩) →
    Evl (fun k => spec_l10Follow.l1 k first l.length tab least out (up sk) gl D l) (ordR l fin kk (tks D L sk) out, least) := by
  have hn := V.le
  intro d
  induction d with
  | zero =>
    intro kk D L out gl sk hk hd hlen R hne h0
    refine Evl.of 1 (fun k hk => ?_)
    obtain ⟨k, rfl⟩ : ∃ m, k = m + 1 := ⟨k - 1, by omega⟩
    simp only [spec_l10Follow.l1]
    rw [if_neg (by omega), show ordR l fin kk (tks D L sk) out = out from by cases kk <;> simp [ordR, show ¬ out.length < l.length by omega]]
  | succ d ih =>
    intro kk D L out gl sk hk hd hlen R hne h0
    obtain ⟨kk, rfl⟩ : ∃ m, kk = m + 1 := ⟨kk - 1, by omega⟩
    have hsk8 : ∀ s ∈ sk, s ≤ 8 := fun s hs => Nat.le_trans (R.hsk s hs) R.cn8
    have hDne : D ≠ 2 ^ l.length - 1 := fun e => by rw [(ucnt_zero _ _ R.hD).2 e] at hd; omega
    have hex : ∃ w, w < l.length ∧ D.testBit w = false ∧ sk.foldl (stepS l fin D L w) [] ≠ [] := by
      obtain ⟨s, hs⟩ := List.exists_mem_of_ne_nil _ hne
      have hs9 : s ≤ 9 := Nat.le_trans (hsk8 s hs) (by decide)
      obtain ⟨x, hx, h1, h2⟩ := good_ex V fin R.hD R.hL hs9 (h0 s hs) hDne
      have hok := itms_ok hn (t := ⟨D, L, s⟩) ⟨D, L, s, rfl, R.hD, R.hL, hs9⟩ x hx
      have hbw : D.testBit x.w = false := by simpa using hok.2.2.2.1
      refine ⟨x.w, hok.2.2.1, hbw, fun e => ?_⟩
      obtain ⟨s', hs', _⟩ := (good_iff V fin R.hD R.hL hsk8 hok.2.2.1 hbw x.t).1 ⟨x, ⟨⟨D, L, s⟩, List.mem_map.2 ⟨s, hs, rfl⟩, hx, (gw_iff (fin := fin) V R.hD R.hL hs9 hx _).2 ⟨h1, h2⟩⟩, rfl, rfl⟩
      rw [e] at hs'
      cases hs'
    have h := fol2 (first := first) (least := least) (r := (ordR l fin (kk + 1) (tks D L sk) out, least)) V R (fun w hw hb hne' hmin => by
      rw [next_is V fin R.hD R.hL hsk8 hw hb hne' hmin kk out (by omega)]
      have hmem : ∀ s' ∈ sk.foldl (stepS l fin D L w) [], s' ≤ cn ∧ 0 ≤ lf l fin ⟨(D ||| 2 ^ w : Nat), w, s'⟩ := by
        intro s' hs'
        rcases (mem_foldS s' sk []).1 hs' with h | ⟨s, hs, h⟩
        · cases h
        · have := R.hsk s hs
          rcases h with ⟨rfl, a, b⟩ | ⟨rfl, a, b⟩
          · exact ⟨this, by rw [b]; exact a⟩
          · exact ⟨by omega, by rw [b]; exact a⟩
      have hc := ucnt_or l.length D w hb
      rw [if_pos hw] at hc
      have hcn := R.cn8
      have hlo := R.lo
      refine ih kk (D ||| 2 ^ w) w (out ++ [(w : Int)]) _ _ (by omega) (by omega) (by simp; omega) ⟨R.full, R.cn8, or_lt R.hD hw, hw, by simp, by simp; omega, by simp [List.getD_eq_getElem?_getD], rs_len .., fun j hj => rs_getD hj, fun s' hs' => (hmem s' hs').1, ?_⟩ hne' (fun s' hs' => (hmem s' hs').2)
      have := few 10 _ (foldS_nd (l := l) (fin := fin) (D := D) (L := L) (w := w) sk [] List.nodup_nil) (fun x hx => by have := (hmem x hx).1; omega)
      omega) hex l.length 0 (by omega) (by omega) (fun v hv _ => absurd hv (Nat.not_lt_zero v))
    refine Evl.step 0 (fun k _ => ?_) h
    simp only [spec_l10Follow.l1]
    rw [if_pos (by omega)]
    rfl
/-- A wire that is looked at as the first one. -/
theorem folLook (hn : l.length ≤ 9) (h9 : 2 ^ l.length ≤ 512) (hT : Full l fin cn tab) (hcn : cn ≤ 8) (hl0 : 0 ≤ least) (w : Nat) (hw : w < l.length) (x : Int) (hx : Aside0 (lf l fin ⟨(2 ^ w : Nat), w, cn⟩ = x))
    (hy : x = least → Evl (fun k => spec_l10Follow.l2 k first l.length tab least [(w : Int)] [(cn : Int)] [least] ((2 ^ w : Nat) : Int) true ((w + 1 : Nat) : Int) l) r)
    (hno : x ≠ least → Evl (fun k => spec_l10Follow.l2 k first l.length tab least [] [(cn : Int)] [least] 0 false ((w + 1 : Nat) : Int) l) r) :
    Evl (fun k => spec_l10Follow.l3 k first l.length tab least [] [(cn : Int)] [least] 0 false w [] [] (toW (2 ^ w) w) 0 l) r := by
  have hp : 2 ^ w < 2 ^ l.length := Nat.pow_lt_pow_right (by decide) hw
  have hp9 : 2 ^ w < 512 := Nat.lt_of_lt_of_le hp h9
  have eo : Aside0 (Go.bits .or .i64 (0 : Int) (shl .i64 1 (IntKind.u64.wrap (w : Int))) = ((2 ^ w : Nat) : Int)) := ⟨by
    rw [u64n (by omega), shl9 (by omega)]
    have := setb_nat 0 w (by decide) (by omega)
    rw [Nat.zero_or] at this
    exact this⟩
  have u0 : Aside0 ((0 : Int) ≤ IntKind.u64.wrap (w : Int)) := ⟨by rw [u64n (by omega)]; exact Int.natCast_nonneg w⟩
  have hm2 : ¬ ((2 : Nat) : Int) ≤ (if (1 : Int) < (cn : Int) then 1 else (cn : Int)) := by split <;> omega
  have hrd0 : rd [(cn : Int)] 0 = (cn : Int) := rfl
  have hgl0 : rd [least] 0 = least := rfl
  -- behind the numbers of shields
  have end_ : Evl (fun k => spec_l10Follow.l3 k first l.length tab least [] [(cn : Int)] [least] 0 false w (up (addS l fin (2 ^ w) w [] cn least)) (rs l fin (2 ^ w) w (addS l fin (2 ^ w) w [] cn least)) (toW (2 ^ w) w) 1 l) r := by
    by_cases c : x = least
    · have ea : addS l fin (2 ^ w) w [] cn least = [cn] := by
        unfold addS
        rw [if_neg]
        · rfl
        · rintro (h | h | h)
          · exact absurd h (Int.not_lt.2 hl0)
          · exact h (hx.out.trans c)
          · cases h
      have er : rs l fin (2 ^ w) w [cn] = [least] := by
        unfold rs
        rw [List.map_cons, List.map_nil, hx.out, c]
      rw [ea, er]
      refine Evl.step 0 (fun k _ => ?_) (hy c)
      simp only [spec_l10Follow.l3]
      rw [if_neg (by simp), if_pos (by simp [up]), if_pos u0.out, if_pos (by simp), eo.out, w64s hw (by omega)]
      rfl
    · have ea : addS l fin (2 ^ w) w [] cn least = [] := by
        unfold addS
        rw [if_pos (.inr (.inl (fun h => c (hx.out.symm.trans h))))]
      rw [ea]
      refine Evl.step 0 (fun k _ => ?_) (hno c)
      simp only [spec_l10Follow.l3]
      rw [if_neg (by simp), if_neg (by simp [up]), w64s hw (by omega)]
  have exit_ : ∀ (sh : Nat), ¬ (sh : Int) ≤ (if (1 : Int) < (cn : Int) then 1 else (cn : Int)) → Evl (fun k => spec_l10Follow.l4 k first l.length tab least [] [(cn : Int)] [least] 0 false w (up (addS l fin (2 ^ w) w [] cn least)) (rs l fin (2 ^ w) w (addS l fin (2 ^ w) w [] cn least)) (toW (2 ^ w) w) 0 sh l) r := by
    intro sh hsh
    refine Evl.step 0 (fun k _ => ?_) end_
    simp only [spec_l10Follow.l4]
    rw [if_pos (by decide), if_pos (by simp), hrd0, min1]
    simp only [Option.bind_some]
    rw [if_neg hsh, show wrap64 ((0 : Int) + 1) = 1 by rw [w64 (by omega)]; rfl]
  have hmid : Evl (fun k => spec_l10Follow.l4 k first l.length tab least [] [(cn : Int)] [least] 0 false w (up (addS l fin (2 ^ w) w [] cn least)) (rs l fin (2 ^ w) w (addS l fin (2 ^ w) w [] cn least)) (toW (2 ^ w) w) 0 ((0 + 1 : Nat) : Int) l) r := by
    by_cases c : ((0 + 1 : Nat) : Int) ≤ (if (1 : Int) < (cn : Int) then 1 else (cn : Int))
    · refine Evl.step 0 (fun k _ => ?_) (exit_ 2 hm2)
      simp only [spec_l10Follow.l4]
      rw [if_pos (by decide), if_pos (by simp), hrd0, min1]
      simp only [Option.bind_some]
      rw [if_pos c, if_pos (by simp), if_pos (by simp), if_pos (by decide), show wrap64 (((0 + 1 : Nat) : Int) + 1) = 2 by rw [w64 (by omega)]; rfl]
      rfl
    · exact exit_ (0 + 1) c
  have h8 := fol8 (first := first) (least := least) hn hT hcn (E := 2 ^ w) (w := w) (D := 0) (out := []) (gl := [least]) (sk := [cn]) (nx := []) (j := 0) (sh := 0) (s := cn) (goal := least) (fd := false) hp hp9 hw (Nat.testBit_two_pow_self ..) (by simp) (by simp) rfl (Nat.le_refl _) (Nat.zero_le _) (by decide) (by simp) hmid
  have hm0 : (0 : Int) ≤ (if (1 : Int) < (cn : Int) then 1 else (cn : Int)) := by split <;> omega
  refine Evl.step 0 (fun k _ => ?_) (Evl.step (g := fun k => spec_l10Follow.l4 k first l.length tab least [] [(cn : Int)] [least] 0 false w [] [] (toW (2 ^ w) w) 0 0 l) 0 (fun k _ => ?_) h8)
  · simp only [spec_l10Follow.l3]
    rw [if_pos (by simp)]
  · simp only [spec_l10Follow.l4]
    rw [if_pos (by decide), if_pos (by simp), hrd0, min1]
    simp only [Option.bind_some]
    rw [if_pos hm0, if_pos (by simp), if_pos (by simp), if_neg (by decide), hgl0]
    rfl
/-- The first wire. -/
theorem folF (V : Valid l) (hT : Full l fin cn tab) (hcn : cn ≤ 8) (sel : Nat → Prop) (hsel : ∀ w, w < l.length → (sel w ↔ (first < 0 ∨ (w : Int) = first))) (w0 : Nat) (hw0 : w0 < l.length) (hs0 : sel w0) (hl0 : 0 ≤ least) (he : Aside0 (lf l fin ⟨(2 ^ w0 : Nat), w0, cn⟩ = least)) (hmin : Aside0 (∀ v, v < w0 → sel v → lf l fin ⟨(2 ^ v : Nat), v, cn⟩ ≠ least))
    (H : Evl (fun k => spec_l10Follow.l1 k first l.length tab least [(w0 : Int)] [(cn : Int)] [least] ((2 ^ w0 : Nat) : Int) l) r) :
    ∀ (d w : Nat), w0 - w = d → w ≤ w0 → Evl (fun k => spec_l10Follow.l2 k first l.length tab least [] [(cn : Int)] [least] 0 false w l) r := by
  have hn := V.le
  have h9 := pow9 hn
  intro d
  induction d with
  | zero =>
    intro w hd hw
    obtain rfl : w = w0 := by omega
    have u0 : Aside0 ((0 : Int) ≤ IntKind.u64.wrap (w : Int)) := ⟨by rw [u64n (by omega)]; exact Int.natCast_nonneg w⟩
    have et : Aside0 (¬ Go.bits .and .i64 (shr .i64 (0 : Int) (IntKind.u64.wrap (w : Int))) 1 = 1) := ⟨by
      rw [u64n (by omega), shr9 _ (by omega)]
      intro h
      have := (tst_nat 0 w (by decide)).1 h
      simp at this⟩
    have eto : Aside0 (wrap64 (wrap64 (wrap64 (Go.bits .or .i64 (0 : Int) (shl .i64 1 (IntKind.u64.wrap (w : Int))) * 9) + w) * 9) = toW (2 ^ w) w) := ⟨by
      have e0 := setb_nat 0 w (by decide) (by omega)
      rw [Nat.zero_or] at e0
      rw [u64n (by omega), shl9 (by omega), show Go.bits .or .i64 (0 : Int) (wrap64 (2 ^ w)) = setb 0 w from rfl, show setb 0 w = ((2 ^ w : Nat) : Int) from e0]
      exact toW_eq (by have := Nat.pow_lt_pow_right (a := 2) (by decide) hw0; omega) (by omega)⟩
    have h3 := folLook (first := first) (r := r) hn h9 hT hcn hl0 w hw0 _ ⟨rfl⟩ (fun _ => by
      by_cases c : w + 1 < l.length
      · refine Evl.step 0 (fun k _ => ?_) (Evl.step (g := fun k => spec_l10Follow.j4 k first l.length tab least [(w : Int)] [(cn : Int)] [least] ((2 ^ w : Nat) : Int) true ((w + 1 : Nat) : Int) false l) 0 (fun k _ => ?_) H)
        · simp only [spec_l10Follow.l2]
          rw [if_pos (by omega)]
          rfl
        · simp only [spec_l10Follow.j4]
          rw [if_neg (by decide)]
      · refine Evl.step 0 (fun k _ => ?_) (Evl.step (g := fun k => spec_l10Follow.j4 k first l.length tab least [(w : Int)] [(cn : Int)] [least] ((2 ^ w : Nat) : Int) true ((w + 1 : Nat) : Int) false l) 0 (fun k _ => ?_) H)
        · simp only [spec_l10Follow.l2]
          rw [if_neg (by omega)]
        · simp only [spec_l10Follow.j4]
          rw [if_neg (by decide)]) (fun h => absurd he.out h)
    have hb : (first ≥ 0 → ((w : Int) != first) = false) := by
      intro hf
      have := (hsel w hw0).1 hs0
      rw [bne_eq_false_iff_eq]
      omega
    refine Evl.step 0 (fun k _ => ?_) (Evl.step (g := fun k => spec_l10Follow.j4 k first l.length tab least [] [(cn : Int)] [least] 0 false w true l) 0 (fun k _ => ?_) (Evl.step (g := fun k => spec_l10Follow.j5 k first l.length tab least [] [(cn : Int)] [least] 0 false w false l) 0 (fun k _ => ?_) h3))
    · simp only [spec_l10Follow.l2]
      rw [if_pos (by omega)]
      rfl
    · simp only [spec_l10Follow.j4]
      rw [if_pos trivial, if_pos u0.out, if_neg et.out, if_pos (by simp)]
      by_cases hf : first ≥ 0
      · rw [if_pos hf, hb hf]
      · rw [if_neg hf]
    · simp only [spec_l10Follow.j5]
      rw [if_neg (by decide), if_pos u0.out, eto.out]
  | succ d ih =>
    intro w hd hw
    have hwl : w < l.length := by omega
    have u0 : Aside0 ((0 : Int) ≤ IntKind.u64.wrap (w : Int)) := ⟨by rw [u64n (by omega)]; exact Int.natCast_nonneg w⟩
    have et : Aside0 (¬ Go.bits .and .i64 (shr .i64 (0 : Int) (IntKind.u64.wrap (w : Int))) 1 = 1) := ⟨by
      rw [u64n (by omega), shr9 _ (by omega)]
      intro h
      have := (tst_nat 0 w (by decide)).1 h
      simp at this⟩
    have eto : Aside0 (wrap64 (wrap64 (wrap64 (Go.bits .or .i64 (0 : Int) (shl .i64 1 (IntKind.u64.wrap (w : Int))) * 9) + w) * 9) = toW (2 ^ w) w) := ⟨by
      have e0 := setb_nat 0 w (by decide) (by omega)
      rw [Nat.zero_or] at e0
      rw [u64n (by omega), shl9 (by omega), show Go.bits .or .i64 (0 : Int) (wrap64 (2 ^ w)) = setb 0 w from rfl, show setb 0 w = ((2 ^ w : Nat) : Int) from e0]
      exact toW_eq (by have := Nat.pow_lt_pow_right (a := 2) (by decide) hwl; omega) (by omega)⟩
    have nxt := ih (w + 1) (by omega) (by omega)
    by_cases hsw : sel w
    · have h3 := folLook (first := first) (r := r) hn h9 hT hcn hl0 w hwl _ ⟨rfl⟩ (fun h => absurd h (hmin.out w (by omega) hsw)) (fun _ => nxt)
      have hb : (first ≥ 0 → ((w : Int) != first) = false) := by
        intro hf
        have := (hsel w hwl).1 hsw
        rw [bne_eq_false_iff_eq]
        omega
      refine Evl.step 0 (fun k _ => ?_) (Evl.step (g := fun k => spec_l10Follow.j4 k first l.length tab least [] [(cn : Int)] [least] 0 false w true l) 0 (fun k _ => ?_) (Evl.step (g := fun k => spec_l10Follow.j5 k first l.length tab least [] [(cn : Int)] [least] 0 false w false l) 0 (fun k _ => ?_) h3))
      · simp only [spec_l10Follow.l2]
        rw [if_pos (by omega)]
        rfl
      · simp only [spec_l10Follow.j4]
        rw [if_pos trivial, if_pos u0.out, if_neg et.out, if_pos (by simp)]
        by_cases hf : first ≥ 0
        · rw [if_pos hf, hb hf]
        · rw [if_neg hf]
      · simp only [spec_l10Follow.j5]
        rw [if_neg (by decide), if_pos u0.out, eto.out]
    · have hns := fun h => hsw ((hsel w hwl).2 h)
      have hf : first ≥ 0 := by
        have h2 : ¬ first < 0 := fun h => hns (.inl h)
        omega
      have hb : ((w : Int) != first) = true := by
        rw [bne_iff_ne]
        exact fun e => hns (.inr e)
      refine Evl.step 0 (fun k _ => ?_) (Evl.step (g := fun k => spec_l10Follow.j4 k first l.length tab least [] [(cn : Int)] [least] 0 false w true l) 0 (fun k _ => ?_) (Evl.step (g := fun k => spec_l10Follow.j5 k first l.length tab least [] [(cn : Int)] [least] 0 false w true l) 0 (fun k _ => ?_) nxt))
      · simp only [spec_l10Follow.l2]
        rw [if_pos (by omega)]
        rfl
      · simp only [spec_l10Follow.j4]
        rw [if_pos trivial, if_pos u0.out, if_neg et.out, if_pos (by simp), if_pos hf, hb]
      · simp only [spec_l10Follow.j5]
        rw [if_pos trivial, w64s hwl (by omega)]
/-- The least coupling of the first i beginnings that are looked at. -/
def mF (l : List (List Int)) (fin : Int) (cn : Nat) (first : Int) : Nat → Int
  | 0 => -1
  | i + 1 => if 0 ≤ lf l fin ⟨(2 ^ i : Nat), i, cn⟩ ∧ (first < 0 ∨ (i : Int) = first) ∧ (mF l fin cn first i < 0 ∨ lf l fin ⟨(2 ^ i : Nat), i, cn⟩ < mF l fin cn first i) then lf l fin ⟨(2 ^ i : Nat), i, cn⟩ else mF l fin cn first i
theorem mF_min (sel : Nat → Prop) : ∀ (i : Nat), (∀ w, w < i → (sel w ↔ (first < 0 ∨ (w : Int) = first))) →
    (mF l fin cn first i = -1 ∧ ∀ w, w < i → sel w → lf l fin ⟨(2 ^ w : Nat), w, cn⟩ < 0) ∨ (0 ≤ mF l fin cn first i ∧ (∃ w, w < i ∧ sel w ∧ lf l fin ⟨(2 ^ w : Nat), w, cn⟩ = mF l fin cn first i) ∧ ∀ w, w < i → sel w → lf l fin ⟨(2 ^ w : Nat), w, cn⟩ < 0 ∨ mF l fin cn first i ≤ lf l fin ⟨(2 ^ w : Nat), w, cn⟩) := by
  intro i
  induction i with
  | zero => exact fun _ => .inl ⟨rfl, fun w h => absurd h (Nat.not_lt_zero w)⟩
  | succ i ih =>
    intro hs
    have h := ih fun w hw => hs w (by omega)
    have hsi := hs i (by omega)
    unfold mF
    generalize hx : lf l fin ⟨(2 ^ i : Nat), i, cn⟩ = x
    generalize mF l fin cn first i = m at h ⊢
    have split_ : ∀ {w}, w < i + 1 → w < i ∨ w = i := fun h => by omega
    by_cases c : 0 ≤ x ∧ (first < 0 ∨ (i : Int) = first) ∧ (m < 0 ∨ x < m)
    · rw [if_pos c]
      refine .inr ⟨c.1, ⟨i, by omega, hsi.2 c.2.1, hx⟩, fun w hw hsw => ?_⟩
      rcases split_ hw with hw | rfl
      · rcases h with ⟨_, h⟩ | ⟨_, _, h⟩
        · exact .inl (h w hw hsw)
        · rcases h w hw hsw with h | h
          · exact .inl h
          · rcases c.2.2 with c | c
            · omega
            · exact .inr (by omega)
      · exact .inr (Int.le_of_eq hx.symm)
    · rw [if_neg c]
      rcases h with ⟨h1, h2⟩ | ⟨h1, ⟨w0, h2, h3, h4⟩, h5⟩
      · refine .inl ⟨h1, fun w hw hsw => ?_⟩
        rcases split_ hw with hw | rfl
        · exact h2 w hw hsw
        · rw [hx]
          have h6 : ¬ 0 ≤ x := fun h => c ⟨h, hsi.1 hsw, .inl (by omega)⟩
          omega
      · refine .inr ⟨h1, ⟨w0, by omega, h3, h4⟩, fun w hw hsw => ?_⟩
        rcases split_ hw with hw | rfl
        · exact h5 w hw hsw
        · rw [hx]
          by_cases h6 : 0 ≤ x
          · have h7 : ¬ x < m := fun h => c ⟨h6, hsi.1 hsw, .inr h⟩
            exact .inr (by omega)
          · exact .inl (by omega)
/-- The beginnings, one by one. -/
theorem fol0 (hn : l.length ≤ 9) (h9 : 2 ^ l.length ≤ 512) (hT : Full l fin cn tab) (hcn : cn ≤ 8)
    (H : Evl (fun k => spec_l10Follow.l1 k first l.length tab (mF l fin cn first l.length) [] [(cn : Int)] [mF l fin cn first l.length] 0 l) r) :
    ∀ (d i : Nat), l.length - i = d → i ≤ l.length → Evl (fun k => spec_l10Follow.l0 k cn first l.length tab (mF l fin cn first i) i l) r := by
  intro d
  induction d with
  | zero =>
    intro i hd hi
    obtain rfl : i = l.length := by omega
    refine Evl.step 0 (fun k _ => ?_) H
    simp only [spec_l10Follow.l0]
    rw [if_neg (by omega)]
  | succ d ih =>
    intro i hd hi
    have hil : i < l.length := by omega
    have hp : 2 ^ i < 2 ^ l.length := Nat.pow_lt_pow_right (by decide) hil
    have hp9 : 2 ^ i < 512 := Nat.lt_of_lt_of_le hp h9
    have hh := ih (i + 1) (by omega) (by omega)
    have hlen : ((ix (2 ^ i) i cn : Nat) : Int) < (tab.length : Int) := by
      have := ix_lt (n := l.length) hp (show i < 9 by omega) (show cn < 9 by omega)
      have := hT.1
      omega
    have u0 : Aside0 ((0 : Int) ≤ IntKind.u64.wrap (i : Int)) := ⟨by rw [u64n (by omega)]; exact Int.natCast_nonneg i⟩
    have eix : Aside0 (wrap64 (wrap64 (wrap64 (wrap64 (shl .i64 1 (IntKind.u64.wrap (i : Int)) * 9) + i) * 9) + cn) = (ix (2 ^ i) i cn : Int)) := ⟨by
      rw [u64n (by omega), shl9 (by omega), wpow i (by omega)]
      exact ix_int hp9 (by omega) (by omega)⟩
    have htab : Aside0 (rd tab ((ix (2 ^ i) i cn : Nat) : Int) = lf l fin ⟨(2 ^ i : Nat), i, cn⟩) := ⟨by
      rw [rd_nat]
      exact hT.2 (2 ^ i) i cn hp hil (Nat.le_refl _) (Nat.testBit_two_pow_self ..)⟩
    have hi1 : Aside0 (wrap64 ((i : Int) + 1) = ((i + 1 : Nat) : Int)) := ⟨w64s hil (by omega)⟩
    have em : mF l fin cn first (i + 1) = if 0 ≤ lf l fin ⟨(2 ^ i : Nat), i, cn⟩ ∧ (first < 0 ∨ (i : Int) = first) ∧ (mF l fin cn first i < 0 ∨ lf l fin ⟨(2 ^ i : Nat), i, cn⟩ < mF l fin cn first i) then lf l fin ⟨(2 ^ i : Nat), i, cn⟩ else mF l fin cn first i := rfl
    rw [em] at hh
    generalize mF l fin cn first i = m at hh ⊢
    generalize lf l fin ⟨(2 ^ i : Nat), i, cn⟩ = x at hh htab
    have yes_ : (0 ≤ x ∧ (first < 0 ∨ (i : Int) = first) ∧ (m < 0 ∨ x < m)) → Evl (fun k => spec_l10Follow.j1 k cn first l.length tab m i x true l) r := by
      intro c
      rw [if_pos c] at hh
      refine Evl.step 0 (fun k _ => ?_) hh
      simp only [spec_l10Follow.j1]
      rw [if_pos trivial, hi1.out]
    have no_ : ¬ (0 ≤ x ∧ (first < 0 ∨ (i : Int) = first) ∧ (m < 0 ∨ x < m)) → Evl (fun k => spec_l10Follow.j1 k cn first l.length tab m i x false l) r := by
      intro c
      rw [if_neg c] at hh
      refine Evl.step 0 (fun k _ => ?_) hh
      simp only [spec_l10Follow.j1]
      rw [if_neg (by decide), hi1.out]
    have hlt : (i : Int) < (l.length : Int) := by omega
    by_cases c1 : x ≥ 0
    · by_cases c2 : first < 0
      · by_cases c3 : m < 0
        · refine Evl.step 0 (fun k _ => ?_) (yes_ ⟨c1, .inl c2, .inl c3⟩)
          simp only [spec_l10Follow.l0]
          rw [if_pos hlt, if_pos u0.out, eix.out, if_pos (Int.natCast_nonneg _), if_pos hlen, htab.out, if_pos c1, if_pos c2, if_pos c3]
        · by_cases c4 : x < m
          · refine Evl.step 0 (fun k _ => ?_) (yes_ ⟨c1, .inl c2, .inr c4⟩)
            simp only [spec_l10Follow.l0]
            rw [if_pos hlt, if_pos u0.out, eix.out, if_pos (Int.natCast_nonneg _), if_pos hlen, htab.out, if_pos c1, if_pos c2, if_neg c3, decide_eq_true c4]
          · refine Evl.step 0 (fun k _ => ?_) (no_ (fun h => h.2.2.elim c3 c4))
            simp only [spec_l10Follow.l0]
            rw [if_pos hlt, if_pos u0.out, eix.out, if_pos (Int.natCast_nonneg _), if_pos hlen, htab.out, if_pos c1, if_pos c2, if_neg c3, decide_eq_false c4]
      · by_cases c5 : (i : Int) = first
        · by_cases c3 : m < 0
          · refine Evl.step 0 (fun k _ => ?_) (yes_ ⟨c1, .inr c5, .inl c3⟩)
            simp only [spec_l10Follow.l0]
            rw [if_pos hlt, if_pos u0.out, eix.out, if_pos (Int.natCast_nonneg _), if_pos hlen, htab.out, if_pos c1, if_neg c2, if_pos c5, if_pos c3]
          · by_cases c4 : x < m
            · refine Evl.step 0 (fun k _ => ?_) (yes_ ⟨c1, .inr c5, .inr c4⟩)
              simp only [spec_l10Follow.l0]
              rw [if_pos hlt, if_pos u0.out, eix.out, if_pos (Int.natCast_nonneg _), if_pos hlen, htab.out, if_pos c1, if_neg c2, if_pos c5, if_neg c3, decide_eq_true c4]
            · refine Evl.step 0 (fun k _ => ?_) (no_ (fun h => h.2.2.elim c3 c4))
              simp only [spec_l10Follow.l0]
              rw [if_pos hlt, if_pos u0.out, eix.out, if_pos (Int.natCast_nonneg _), if_pos hlen, htab.out, if_pos c1, if_neg c2, if_pos c5, if_neg c3, decide_eq_false c4]
        · refine Evl.step 0 (fun k _ => ?_) (no_ (fun h => h.2.1.elim c2 c5))
          simp only [spec_l10Follow.l0]
          rw [if_pos hlt, if_pos u0.out, eix.out, if_pos (Int.natCast_nonneg _), if_pos hlen, htab.out, if_pos c1, if_neg c2, if_neg c5]
    · refine Evl.step 0 (fun k _ => ?_) (no_ (fun h => c1 h.1))
      simp only [spec_l10Follow.l0]
      rw [if_pos hlt, if_pos u0.out, eix.out, if_pos (Int.natCast_nonneg _), if_pos hlen, htab.out, if_neg c1]
/-- The reference's order, where there is one, is the planner's. -/
theorem follow (V : Valid l) (hcn : cn ≤ 8) (ws : List Nat) (hasc : ws.Pairwise (· < ·)) (hmem : ∀ w, w ∈ ws ↔ w < l.length ∧ (first < 0 ∨ (w : Int) = first)) {os : List Int} {c : Int} (h : orderF l fin cn ws = (os, c, true)) :
    Evl (fun k => spec_l10Follow.f k l cn first fin) (os, c) := by
  have hn := V.le
  have h9 := pow9 hn
  have hbeg : ∀ w, w < l.length → begT cn w = ⟨(2 ^ w : Nat), w, cn⟩ := fun w hw => (begT_tk V (by omega) hw).2
  unfold orderF at h
  rcases begF_min (l := l) (fin := fin) cn ws with ⟨h1, _⟩ | ⟨a, w0, b, h1, h2, h3, h4, h5⟩
  · rw [if_pos (by omega)] at h
    cases h
  rw [h2, if_neg (Int.not_lt.2 h3)] at h
  have hw0m : w0 ∈ ws := by rw [h1]; simp
  obtain ⟨hw0, hs0⟩ := (hmem w0).1 hw0m
  rw [hbeg w0 hw0] at h h3 h4 h5
  simp only [Prod.mk.injEq, and_true] at h
  obtain ⟨ho, hc⟩ := h
  -- the least is the same
  have hmin : ∀ v, v < l.length → (first < 0 ∨ (v : Int) = first) → lf l fin ⟨(2 ^ v : Nat), v, cn⟩ < 0 ∨ lf l fin ⟨(2 ^ w0 : Nat), w0, cn⟩ ≤ lf l fin ⟨(2 ^ v : Nat), v, cn⟩ := by
    intro v hv hsv
    have := (hmem v).2 ⟨hv, hsv⟩
    rw [h1] at this
    rcases List.mem_append.1 this with hva | hvb
    · have := h4 v hva
      rw [hbeg v hv] at this
      exact this.imp id Int.le_of_lt
    · rcases List.mem_cons.1 hvb with rfl | hvb
      · exact .inr (Int.le_refl _)
      · have := h5 v hvb
        rwa [hbeg v hv] at this
  have hlt : ∀ v, v < w0 → (first < 0 ∨ (v : Int) = first) → lf l fin ⟨(2 ^ v : Nat), v, cn⟩ ≠ lf l fin ⟨(2 ^ w0 : Nat), w0, cn⟩ := by
    intro v hv hsv e
    have := (hmem v).2 ⟨by omega, hsv⟩
    rw [h1] at this hasc
    rcases List.mem_append.1 this with hva | hvb
    · have h6 := h4 v hva
      rw [hbeg v (by omega)] at h6
      rw [e] at h6
      exact h6.elim (Int.not_lt.2 h3) (Int.lt_irrefl _)
    · rcases List.mem_cons.1 hvb with rfl | hvb
      · exact Nat.lt_irrefl _ hv
      · have := (List.pairwise_cons.1 (List.pairwise_append.1 hasc).2.1).1 v hvb
        omega
  have hm : mF l fin cn first l.length = c := by
    rw [← hc]
    rcases mF_min (l := l) (fin := fin) (cn := cn) (first := first) (fun w => first < 0 ∨ (w : Int) = first) l.length (fun w _ => Iff.rfl) with ⟨_, g⟩ | ⟨g0, ⟨w1, g1, g2, g3⟩, g4⟩
    · exact absurd (g w0 hw0 hs0) (Int.not_lt.2 h3)
    · have a1 := hmin w1 g1 g2
      have a2 := g4 w0 hw0 hs0
      rw [g3] at a1
      have b1 := a1.resolve_left (Int.not_lt.2 g0)
      have b2 := a2.resolve_left (Int.not_lt.2 h3)
      exact Int.le_antisymm b2 b1
  obtain ⟨tab, htab, hT⟩ := l10Left V fin cn (by omega)
  have hc0 : 0 ≤ c := by rw [← hc]; exact h3
  have hR : Rnd l fin cn tab (2 ^ w0) w0 [(w0 : Int)] [c] [cn] := by
    refine ⟨hT, hcn, Nat.pow_lt_pow_right (by decide) hw0, hw0, by simp, by simp, rfl, rfl, fun j hj => ?_, fun s hs => ?_, by simp⟩
    · obtain rfl : j = 0 := by simp at hj; exact hj
      exact hc.symm
    · obtain rfl := List.mem_singleton.1 hs
      exact Nat.le_refl _
  have hone := ucnt_or l.length 0 w0 (by simp)
  rw [if_pos hw0, Nat.zero_or] at hone
  have hemp : ucnt l.length 0 = l.length := by
    have : ∀ n, ucnt n 0 = n := by
      intro n
      induction n with
      | zero => rfl
      | succ n ih => rw [ucnt_succ, ih]; simp
    exact this _
  have hl1 := fol1 (first := first) (least := c) V (ucnt l.length (2 ^ w0)) 10 (2 ^ w0) w0 [(w0 : Int)] [c] [cn] (by omega) rfl (by simp; omega) hR (by simp) (fun s hs => by
    obtain rfl := List.mem_singleton.1 hs
    exact h3)
  rw [show ordR l fin 10 (tks (2 ^ w0) w0 [cn]) [(w0 : Int)] = os from ho] at hl1
  have hl2 := folF (first := first) (least := c) V hT hcn (fun w => first < 0 ∨ (w : Int) = first) (fun w _ => Iff.rfl) w0 hw0 hs0 hc0 ⟨hc⟩ ⟨fun v hv hsv => by rw [← hc]; exact hlt v hv hsv⟩ hl1 w0 0 (by omega) (by omega)
  have hl3 : Evl (fun k => spec_l10Follow.l1 k first l.length tab (mF l fin cn first l.length) [] [(cn : Int)] [mF l fin cn first l.length] 0 l) (os, c) := by
    rw [hm]
    refine Evl.step 0 (fun k _ => ?_) hl2
    simp only [spec_l10Follow.l1]
    rw [if_pos (by simp; omega)]
    rfl
  have hl0 := fol0 hn h9 hT hcn hl3 l.length 0 (by omega) (by omega)
  unfold spec_l10Follow.f
  exact Evl.bind htab hl0
end
end Go.Proofs.Ytaapbnhggfmlpaa.B
end
section
namespace Go.Proofs.Ytaapbnhggfmlpaa.P
open Go.RowKit Go.Proofs.YtaapbnhggfmlpaaW.PrintWords Go.Proofs.YtaapbnhggfmlpaaW.PrintLast Go.Proofs.YtaapbnhggfmlpaaW.PrintMore
attribute [local go_sem] max2_int min2_int max_two min_two max_three min_three max_four min_four   -- for this text's walks alone
set_option linter.unusedVariables false
set_option linter.unusedSimpArgs false
/-- A state of type 135 at block g of W; what its slices lead to came in by w0. -/
def IsS135 (w0 W : World) (g : Nat) (f0 : List Int) (f1 : Int) (f2 : Int) : Prop := ∃ A0 c0, W.heap[g]? = some (.cells #[.slice A0 f0.length c0, .int .i64 f1, .int .u64 f2] 135 (0, 0)) ∧ w0.heap.size ≤ g ∧ Kd.C (Kd.int .u8) w0 A0 f0.length f0
theorem IsS135.grown {w0 W : World} {g : Nat} {f0 : List Int} {f1 : Int} {f2 : Int} {W1 : World} {row : Option Nat} (h : IsS135 w0 W g f0 f1 f2) (hw : W.grownBy W1 row) (hne : some g ≠ row) : IsS135 w0 W1 g f0 f1 f2 := by
 obtain ⟨A0, c0, hb, hg, hr0⟩ := h
 exact ⟨A0, c0, blk_grown hb hw hne, hg, hr0⟩
theorem IsS135.kept {w0 W : World} {g : Nat} {f0 : List Int} {f1 : Int} {f2 : Int} {W1 : World} {S : Nat → Prop} (h : IsS135 w0 W g f0 f1 f2) (hk : Kept W W1 S) (hne : ¬ S g) : IsS135 w0 W1 g f0 f1 f2 := by
 obtain ⟨A0, c0, hb, hg, hr0⟩ := h
 exact ⟨A0, c0, blk_kept hb hk hne, hg, hr0⟩
theorem IsS135.below {w0 W : World} {g : Nat} {f0 : List Int} {f1 : Int} {f2 : Int} {W1 : World} (h : IsS135 w0 W g f0 f1 f2) (hw : Below W.heap.size W W1) : IsS135 w0 W1 g f0 f1 f2 := h.grown (grown_of_below hw none) (by simp)
theorem IsS135.alloc {w0 W : World} {g : Nat} {f0 : List Int} {f1 : Int} {f2 : Int} (h : IsS135 w0 W g f0 f1 f2) (o : Obj) : IsS135 w0 (W.alloc o) g f0 f1 f2 := h.below (below_alloc (Below.refl _ _) o)
theorem IsS135.drewN {w0 W : World} {g : Nat} {f0 : List Int} {f1 : Int} {f2 : Int} (h : IsS135 w0 W g f0 f1 f2) (m : Nat) : IsS135 w0 (W.drewN m) g f0 f1 f2 := h
theorem IsS135.drew {w0 W : World} {g : Nat} {f0 : List Int} {f1 : Int} {f2 : Int} (h : IsS135 w0 W g f0 f1 f2) : IsS135 w0 W.drew g f0 f1 f2 := h
theorem IsS135.at_ {w0 W : World} {g : Nat} {f0 : List Int} {f1 : Int} {f2 : Int} {w' : World} {m : Nat} (hq : W.drewN m = w') (h : IsS135 w0 W g f0 f1 f2) : IsS135 w0 w' g f0 f1 f2 := by subst hq; exact IsS135.drewN h m
theorem IsS135.apart {w0 W : World} {g : Nat} {f0 : List Int} {f1 : Int} {f2 : Int} {α : Type} {d : Kd α} {e : Nat} {base : Nat} {ok : Nat → Prop} {v : Value} {xs : List α} (h : IsS135 w0 W g f0 f1 f2) (ho : d.R e W base ok v xs) (ht : ∀ q, q ∈ e :: d.E → q ≠ 135) : d.R e W base (fun k => ok k ∧ k ≠ g) v xs := by
 obtain ⟨A0, c0, hb, hg, hr0⟩ := h
 exact Kd.R_types ho hb ht
theorem IsS135.own_ne {w0 W : World} {g : Nat} {f0 : List Int} {f1 : Int} {f2 : Int} {α : Type} {d : Kd α} {e : Nat} {base : Nat} {ok : Nat → Prop} {v : Value} {xs : List α} (h : IsS135 w0 W g f0 f1 f2) (ho : d.R e W base ok v xs) (ht : e ≠ 135) : some g ≠ v.ownBlock := by
 obtain ⟨A0, c0, hb, hg, hr0⟩ := h
 exact Kd.R_ne ho hb ht
theorem IsS135.lt {w0 W : World} {g : Nat} {f0 : List Int} {f1 : Int} {f2 : Int} (h : IsS135 w0 W g f0 f1 f2) : g < W.heap.size := by
 obtain ⟨A0, c0, hb, hg, hr0⟩ := h
 exact blk_lt hb
theorem IsS135.ge {w0 W : World} {g : Nat} {f0 : List Int} {f1 : Int} {f2 : Int} (h : IsS135 w0 W g f0 f1 f2) : w0.heap.size ≤ g := by
 obtain ⟨A0, c0, hb, hg, hr0⟩ := h
 exact hg
theorem IsS135.far {w0 W : World} {g : Nat} {f0 : List Int} {f1 : Int} {f2 : Int} {p : Addr} (h : IsS135 w0 W g f0 f1 f2) (hne : g ≠ p.block) (u : Value) : IsS135 w0 (W.setCell p u) g f0 f1 f2 := by
 obtain ⟨A0, c0, hb, hg, hr0⟩ := h
 exact ⟨A0, c0, blk_far hb hne u, hg, hr0⟩
theorem IsS135.new (w0 W : World) (A0 : Option Addr) (c0 : Nat) (f0 : List Int) (f1 : Int) (f2 : Int) (hB : Below w0.heap.size w0 W) (hr0 : Kd.C (Kd.int .u8) w0 A0 f0.length f0) : IsS135 w0 (W.alloc (.cells #[.slice A0 f0.length c0, .int .i64 f1, .int .u64 f2] 135)) W.heap.size f0 f1 f2 := ⟨A0, c0, by simpa using heap_alloc_new W _, hB.size, hr0⟩
end Go.Proofs.Ytaapbnhggfmlpaa.P
end
section
namespace Go.Proofs.Ytaapbnhggfmlpaa.P
open Go.RowKit Go.Proofs.YtaapbnhggfmlpaaW.PrintWords Go.Proofs.YtaapbnhggfmlpaaW.PrintLast Go.Proofs.YtaapbnhggfmlpaaW.PrintMore
attribute [local go_sem] max2_int min2_int max_two min_two max_three min_three max_four min_four   -- for this text's walks alone
set_option linter.unusedVariables false
set_option linter.unusedSimpArgs false
def spec_l00Src_next.j0 : Nat → Int → List Int → Int → Int → Option (Int × Int × Int)
 | 0, _, _, _, _ => none
 | k + 1, x3, x1000, x1001, x1002 => if (wrap64 (x1001 + 1)) ≤ (x1000.length : Int) then (some (x3, wrap64 (x1001 + 1), IntKind.u64.wrap ((IntKind.u64.wrap ((IntKind.u64.wrap (x1002 * 6364136223846793005)) + (IntKind.u64.wrap (x3)))) + 1442695040888963407))) else (some (wrap64 (Go.bits .and .u64 ((IntKind.u64.wrap ((IntKind.u64.wrap ((IntKind.u64.wrap (x1002 * 6364136223846793005)) + (IntKind.u64.wrap (x3)))) + 1442695040888963407)) / 1099511627776) 255), wrap64 (x1001 + 1), IntKind.u64.wrap ((IntKind.u64.wrap ((IntKind.u64.wrap (x1002 * 6364136223846793005)) + (IntKind.u64.wrap (x3)))) + 1442695040888963407)))
def spec_l00Src_next.f (k : Nat) (s0_0 : List Int) (s0_1 : Int) (s0_2 : Int) : Option (Int × Int × Int) := if s0_1 < (s0_0.length : Int) then (if 0 ≤ s0_1 then (spec_l00Src_next.j0 k (wrap64 (rd s0_0 s0_1)) s0_0 s0_1 s0_2) else (none)) else (spec_l00Src_next.j0 k 0 s0_0 s0_1 s0_2)
end Go.Proofs.Ytaapbnhggfmlpaa.P
end
section
namespace Go.Proofs.Ytaapbnhggfmlpaa.P
open Go.RowKit Go.Proofs.YtaapbnhggfmlpaaW.PrintWords Go.Proofs.YtaapbnhggfmlpaaW.PrintLast Go.Proofs.YtaapbnhggfmlpaaW.PrintMore
attribute [local go_sem] max2_int min2_int max_two min_two max_three min_three max_four min_four   -- for this text's walks alone
set_option linter.unusedVariables false
set_option linter.unusedSimpArgs false
def spec_l00Src_pick.f (k : Nat) (s0_0 : List Int) (s0_1 : Int) (s0_2 : Int) (a1 : Int) : Option (Int × Int × Int) := if a1 ≤ 1 then (some (0, s0_1, s0_2)) else ((spec_l00Src_next.f k s0_0 s0_1 s0_2).bind fun bt103 => (if a1 > 200 then ((spec_l00Src_next.f k s0_0 bt103.2.1 bt103.2.2).bind fun bt106 => (if a1 = 0 then (none) else (some (Int.tmod (wrap64 ((wrap64 (bt103.1 * 256)) + bt106.1)) a1, bt106.2.1, bt106.2.2)))) else (if a1 = 0 then (none) else (some (Int.tmod bt103.1 a1, bt103.2.1, bt103.2.2)))))
end Go.Proofs.Ytaapbnhggfmlpaa.P
end
section
namespace Go.Proofs.Ytaapbnhggfmlpaa.P
open Go.RowKit Go.Proofs.YtaapbnhggfmlpaaW.PrintWords Go.Proofs.YtaapbnhggfmlpaaW.PrintLast Go.Proofs.YtaapbnhggfmlpaaW.PrintMore
attribute [local go_sem] max2_int min2_int max_two min_two max_three min_three max_four min_four   -- for this text's walks alone
set_option linter.unusedVariables false
set_option linter.unusedSimpArgs false
def spec_l00Src_among.f (k : Nat) (s0_0 : List Int) (s0_1 : Int) (s0_2 : Int) (l1 : List Int) : Option (Int × Int × Int) := (spec_l00Src_pick.f k s0_0 s0_1 s0_2 (l1.length : Int)).bind fun bt112 => (if 0 ≤ bt112.1 then (if bt112.1 < (l1.length : Int) then (some (rd l1 bt112.1, bt112.2.1, bt112.2.2)) else (none)) else (none))
end Go.Proofs.Ytaapbnhggfmlpaa.P
end
section
namespace Go.Proofs.Ytaapbnhggfmlpaa.P
open Go.RowKit Go.Proofs.YtaapbnhggfmlpaaW.PrintWords Go.Proofs.YtaapbnhggfmlpaaW.PrintLast Go.Proofs.YtaapbnhggfmlpaaW.PrintMore
attribute [local go_sem] max2_int min2_int max_two min_two max_three min_three max_four min_four   -- for this text's walks alone
set_option linter.unusedVariables false
set_option linter.unusedSimpArgs false
mutual
def spec_l10DrawOk.l0 : Nat → Int → Int → List Int → Int → Int → List (List Int) → Option ((List (List Int)) × Int × Int)
 | 0, _, _, _, _, _, _ => none
 | k + 1, x5, x7, x1000, x1001, x1002, x637000 => if x7 < x5 then (if 0 ≤ x5 then (if (x5 : Int).toNat ≤ 35184372088832 then (if x637000.length < 5864062014805 then (spec_l10DrawOk.l0 k x5 (wrap64 (x7 + 1)) x1000 x1001 x1002 (x637000 ++ [(List.replicate (x5 : Int).toNat 0)])) else (none)) else (none)) else (none)) else ((spec_l00Src_among.f k x1000 x1001 x1002 (([3, 10, 1000] : List Int))).bind fun bt646 => (spec_l10DrawOk.l1 k x5 bt646.1 0 x1000 bt646.2.1 bt646.2.2 x637000))
def spec_l10DrawOk.l1 : Nat → Int → Int → Int → List Int → Int → Int → List (List Int) → Option ((List (List Int)) × Int × Int)
 | 0, _, _, _, _, _, _, _ => none
 | k + 1, x5, x8, x9, x1000, x1001, x1002, x637000 => if x9 < x5 then (spec_l10DrawOk.l2 k x5 x8 x9 0 x1000 x1001 x1002 x637000) else (some (x637000, x1001, x1002))
def spec_l10DrawOk.l2 : Nat → Int → Int → Int → Int → List Int → Int → Int → List (List Int) → Option ((List (List Int)) × Int × Int)
 | 0, _, _, _, _, _, _, _, _ => none
 | k + 1, x5, x8, x9, x10, x1000, x1001, x1002, x637000 => if x10 < x9 then ((spec_l00Src_pick.f k x1000 x1001 x1002 (wrap64 (x8 + 1))).bind fun bt649 => (if 0 ≤ x9 then (if x9 < (x637000.length : Int) then (if 0 ≤ x10 then (if x10 < ((rd_Ls2 x637000 x9).length : Int) then ((some (x637000.set (x9 : Int).toNat ((rd_Ls2 x637000 x9).set (x10 : Int).toNat bt649.1) : List (List Int))).bind fun y655 => (if x10 < (x637000.length : Int) then (if x9 < ((rd_Ls2 y655 x10).length : Int) then (spec_l10DrawOk.l2 k x5 x8 x9 (wrap64 (x10 + 1)) x1000 bt649.2.1 bt649.2.2 (y655.set (x10 : Int).toNat ((rd_Ls2 y655 x10).set (x9 : Int).toNat bt649.1))) else (none)) else (none))) else (none)) else (none)) else (none)) else (none))) else (spec_l10DrawOk.l1 k x5 x8 (wrap64 (x9 + 1)) x1000 x1001 x1002 x637000)
end
end Go.Proofs.Ytaapbnhggfmlpaa.P
end
section
namespace Go.Proofs.Ytaapbnhggfmlpaa.P
open Go.RowKit Go.Proofs.YtaapbnhggfmlpaaW.PrintWords Go.Proofs.YtaapbnhggfmlpaaW.PrintLast Go.Proofs.YtaapbnhggfmlpaaW.PrintMore
attribute [local go_sem] max2_int min2_int max_two min_two max_three min_three max_four min_four   -- for this text's walks alone
set_option linter.unusedVariables false
set_option linter.unusedSimpArgs false
end Go.Proofs.Ytaapbnhggfmlpaa.P
end
section
namespace Go.Proofs.Ytaapbnhggfmlpaa.P
open Go.RowKit Go.Proofs.YtaapbnhggfmlpaaW.PrintWords Go.Proofs.YtaapbnhggfmlpaaW.PrintLast Go.Proofs.YtaapbnhggfmlpaaW.PrintMore
attribute [local go_sem] max2_int min2_int max_two min_two max_three min_three max_four min_four   -- for this text's walks alone
set_option linter.unusedVariables false
set_option linter.unusedSimpArgs false
mutual
def spec_R8Order.l0 : Nat → Int → List Int → Int → List Int → Int → Int → Option (List Int)
 | 0, _, _, _, _, _, _ => none
 | k + 1, x1, x6, x7, x676000, x676001, x676002 => if x7 < x1 then (if x6.length < 17592186044416 then (spec_R8Order.l0 k x1 (x6 ++ [x7]) (wrap64 (x7 + 1)) x676000 x676001 x676002) else (none)) else (spec_R8Order.l1 k x6 (wrap64 (x1 - 1)) x676000 x676001 x676002)
def spec_R8Order.l1 : Nat → List Int → Int → List Int → Int → Int → Option (List Int)
 | 0, _, _, _, _, _ => none
 | k + 1, x6, x8, x676000, x676001, x676002 => if x8 > 0 then ((spec_l00Src_pick.f k x676000 x676001 x676002 (wrap64 (x8 + 1))).bind fun bt682 => (if 0 ≤ bt682.1 then (if bt682.1 < (x6.length : Int) then (if 0 ≤ x8 then (if x8 < (x6.length : Int) then (spec_R8Order.l1 k ((x6.set (bt682.1 : Int).toNat (rd x6 x8)).set (x8 : Int).toNat (rd x6 bt682.1)) (wrap64 (x8 - 1)) x676000 bt682.2.1 bt682.2.2) else (none)) else (none)) else (none)) else (none))) else (some x6)
end
end Go.Proofs.Ytaapbnhggfmlpaa.P
end
section
set_option linter.unusedVariables false
namespace Go.Proofs.Ytaapbnhggfmlpaa.B
open Go.RowKit Go.Proofs.Ytaapbnhggfmlpaa.P Go.Proofs.YtaapbnhggfmlpaaW.PrintWords Go.Proofs.YtaapbnhggfmlpaaW.PrintLast Go.Proofs.YtaapbnhggfmlpaaW.PrintMore
/-- Bytes, told as whole numbers. -/
def Bytes (s : List Int) : Prop := s.length ≤ 1048576 ∧ ∀ x ∈ s, 0 ≤ x ∧ x ≤ 255
/-- A square table of weights, under way. -/
structure Sq (n : Nat) (l : List (List Int)) : Prop where
  len : l.length = n
  row : ∀ i, i < n → (l.getD i []).length = n
  bound : ∀ i j, i < n → j < n → 0 ≤ Wt l i j ∧ Wt l i j ≤ 1000
  sym : ∀ i j, i < n → j < n → Wt l i j = Wt l j i
  zero : ∀ i, i < n → Wt l i i = 0
theorem getD_set {α : Type} (l : List α) (i j : Nat) (x d : α) (hi : i < l.length) : (l.set i x).getD j d = if j = i then x else l.getD j d := by
  simp only [List.getD_eq_getElem?_getD, List.getElem?_set]
  by_cases e : i = j
  · subst e
    simp [hi]
  · rw [if_neg e, if_neg (fun h => e h.symm)]
theorem Sq.put {n : Nat} {l : List (List Int)} (h : Sq n l) {i k : Nat} {w : Int} (hi : i < n) (hk : k < i) (hw : 0 ≤ w ∧ w ≤ 1000) :
    Sq n ((l.set i ((l.getD i []).set k w)).set k (((l.set i ((l.getD i []).set k w)).getD k []).set i w)) := by
  have hl := h.len
  have hik : ¬ k = i := by omega
  have e1 : (l.set i ((l.getD i []).set k w)).getD k [] = l.getD k [] := by rw [getD_set _ _ _ _ _ (by omega), if_neg hik]
  rw [e1]
  have hrow : ∀ a, ((l.set i ((l.getD i []).set k w)).set k ((l.getD k []).set i w)).getD a [] = if a = k then (l.getD k []).set i w else if a = i then (l.getD i []).set k w else l.getD a [] := by
    intro a
    rw [getD_set _ _ _ _ _ (by rw [List.length_set]; omega), getD_set _ _ _ _ _ (by omega)]
  have hW : ∀ a b, a < n → b < n → Wt ((l.set i ((l.getD i []).set k w)).set k ((l.getD k []).set i w)) a b = if (a = i ∧ b = k) ∨ (a = k ∧ b = i) then w else Wt l a b := by
    intro a b ha hb
    unfold Wt
    rw [hrow]
    have r1 := h.row k (by omega)
    have r2 := h.row i hi
    by_cases ca : a = k
    · subst ca
      rw [if_pos rfl, getD_set _ _ _ _ _ (by omega)]
      by_cases cb : b = i
      · rw [if_pos cb, if_pos (.inr ⟨rfl, cb⟩)]
      · rw [if_neg cb, if_neg (by omega)]
    · rw [if_neg ca]
      by_cases ci : a = i
      · subst ci
        rw [if_pos rfl, getD_set _ _ _ _ _ (by omega)]
        by_cases cb : b = k
        · rw [if_pos cb, if_pos (.inl ⟨rfl, cb⟩)]
        · rw [if_neg cb, if_neg (by omega)]
      · rw [if_neg ci, if_neg (by omega)]
  refine ⟨by simp [hl], ?_, ?_, ?_, ?_⟩
  · intro a ha
    rw [hrow]
    by_cases ca : a = k
    · rw [if_pos ca, List.length_set]; exact h.row k (by omega)
    · rw [if_neg ca]
      by_cases ci : a = i
      · rw [if_pos ci, List.length_set]; exact h.row i hi
      · rw [if_neg ci]; exact h.row a ha
  · intro a b ha hb
    rw [hW a b ha hb]
    by_cases c : (a = i ∧ b = k) ∨ (a = k ∧ b = i)
    · rw [if_pos c]; exact hw
    · rw [if_neg c]; exact h.bound a b ha hb
  · intro a b ha hb
    rw [hW a b ha hb, hW b a hb ha]
    by_cases c : (a = i ∧ b = k) ∨ (a = k ∧ b = i)
    · rw [if_pos c, if_pos (by omega)]
    · rw [if_neg c, if_neg (by omega)]; exact h.sym a b ha hb
  · intro a ha
    rw [hW a a ha ha, if_neg (by omega)]
    exact h.zero a ha
section
variable {s : List Int} (hs : Bytes s) (n : Nat) (hn : n ≤ 9)
include hs hn
end
/-- An order of n wires, told as whole numbers. -/
structure Ord (n : Nat) (xs : List Int) : Prop where
  len : xs.length = n
  bd : ∀ j, j < n → 0 ≤ xs.getD j 0 ∧ xs.getD j 0 < n
  inj : ∀ i j, i < n → j < n → xs.getD i 0 = xs.getD j 0 → i = j
theorem Ord.range (n : Nat) : Ord n ((List.range n).map fun x : Nat => (x : Int)) := by
  have hg : ∀ j, j < n → ((List.range n).map fun x : Nat => (x : Int)).getD j 0 = j := by
    intro j hj
    simp [List.getD_eq_getElem?_getD, hj]
  refine ⟨by simp, fun j hj => by rw [hg j hj]; omega, fun i j hi hj e => by rw [hg i hi, hg j hj] at e; omega⟩
section
variable {s : List Int} (hs : Bytes s) (n : Nat) (hn : n ≤ 9)
include hs hn
end
end Go.Proofs.Ytaapbnhggfmlpaa.B
end
section
namespace Go.Proofs.Ytaapbnhggfmlpaa.P
open Go.RowKit Go.Proofs.YtaapbnhggfmlpaaW.PrintWords Go.Proofs.YtaapbnhggfmlpaaW.PrintLast Go.Proofs.YtaapbnhggfmlpaaW.PrintMore
attribute [local go_sem] max2_int min2_int max_two min_two max_three min_three max_four min_four   -- for this text's walks alone
set_option linter.unusedVariables false
set_option linter.unusedSimpArgs false
def impl_orderOk.l0 : Nat → List Int → Int → List Int → Int → Int → List (List Int) → Option (Bool)
 | 0, _, _, _, _, _, _ => none
 | k + 1, x1, x5, x8, x9, x10, x690000 => if x10 < x9 then (if 0 ≤ x10 then (if x10 < (x8.length : Int) then ((impl_in.f (rd x8 x10) 0 (wrap64 ((x690000.length : Int) - 1))).bind fun t691 => (if t691 = true then (if 0 ≤ (rd x8 x10) then (if (Go.bits .and .i64 (shr .i64 x5 (rd x8 x10)) 1) = 1 then (some false) else (impl_orderOk.l0 k x1 (Go.bits .or .i64 x5 (shl .i64 1 (rd x8 x10))) x8 x9 (wrap64 (x10 + 1)) x690000)) else (none)) else (some false))) else (none)) else (none)) else ((impl_ValidBundle.f k x690000).bind fun t692 => (if t692 = true then (some ((x1.length : Int) == (x690000.length : Int))) else (some false)))
def impl_orderOk.f (k : Nat) (l0_0 : List (List Int)) (l1 : List Int) : Option (Bool) := impl_orderOk.l0 k l1 0 l1 (l1.length : Int) 0 l0_0
end Go.Proofs.Ytaapbnhggfmlpaa.P
end
section
namespace Go.Proofs.Ytaapbnhggfmlpaa.P
open Go.RowKit Go.Proofs.YtaapbnhggfmlpaaW.PrintWords Go.Proofs.YtaapbnhggfmlpaaW.PrintLast Go.Proofs.YtaapbnhggfmlpaaW.PrintMore
attribute [local go_sem] max2_int min2_int max_two min_two max_three min_three max_four min_four   -- for this text's walks alone
set_option linter.unusedVariables false
set_option linter.unusedSimpArgs false
mutual
def impl_IsLayout.l0 : Nat → List Int → List Int → List Int → Int → Int → List (List Int) → Option (Bool)
 | 0, _, _, _, _, _, _ => none
 | k + 1, x1, x2, x9, x10, x11, x694000 => if x11 < x10 then (if 0 ≤ x11 then (if x11 < (x9.length : Int) then ((impl_in.f (rd x9 x11) 1 (wrap64 ((x694000.length : Int) - 1))).bind fun t695 => (if t695 = true then (if x11 > 0 then (if 0 ≤ (wrap64 (x11 - 1)) then (if (wrap64 (x11 - 1)) < (x2.length : Int) then (impl_IsLayout.j1 k x1 x2 x9 x10 x11 (decide ((rd x2 (wrap64 (x11 - 1))) ≥ (rd x9 x11))) x694000) else (none)) else (none)) else (impl_IsLayout.j1 k x1 x2 x9 x10 x11 false x694000)) else (impl_IsLayout.j1 k x1 x2 x9 x10 x11 true x694000))) else (none)) else (none)) else ((impl_orderOk.f k x694000 x1).bind fun t697 => (some t697))
def impl_IsLayout.j1 : Nat → List Int → List Int → List Int → Int → Int → Bool → List (List Int) → Option (Bool)
 | 0, _, _, _, _, _, _, _ => none
 | k + 1, x1, x2, x9, x10, x11, x35, x694000 => if x35 = true then (some false) else (impl_IsLayout.l0 k x1 x2 x9 x10 (wrap64 (x11 + 1)) x694000)
end
end Go.Proofs.Ytaapbnhggfmlpaa.P
end
section
namespace Go.Proofs.Ytaapbnhggfmlpaa.P
open Go.RowKit Go.Proofs.YtaapbnhggfmlpaaW.PrintWords Go.Proofs.YtaapbnhggfmlpaaW.PrintLast Go.Proofs.YtaapbnhggfmlpaaW.PrintMore
attribute [local go_sem] max2_int min2_int max_two min_two max_three min_three max_four min_four   -- for this text's walks alone
set_option linter.unusedVariables false
set_option linter.unusedSimpArgs false
def slices_Index_int64_int64.l0 : Nat → List Int → Int → Int → Int → Option (Int)
 | 0, _, _, _, _ => none
 | k + 1, x0, x1, x7, x8 => if x8 < x7 then (if 0 ≤ x8 then (if x8 < (x0.length : Int) then (if x1 = (rd x0 x8) then (some x8) else (slices_Index_int64_int64.l0 k x0 x1 x7 (wrap64 (x8 + 1)))) else (none)) else (none)) else (some (-1))
def slices_Index_int64_int64.f (k : Nat) (l0 : List Int) (a1 : Int) : Option (Int) := slices_Index_int64_int64.l0 k l0 a1 (l0.length : Int) 0
end Go.Proofs.Ytaapbnhggfmlpaa.P
end
section
namespace Go.Proofs.Ytaapbnhggfmlpaa.P
open Go.RowKit Go.Proofs.YtaapbnhggfmlpaaW.PrintWords Go.Proofs.YtaapbnhggfmlpaaW.PrintLast Go.Proofs.YtaapbnhggfmlpaaW.PrintMore
attribute [local go_sem] max2_int min2_int max_two min_two max_three min_three max_four min_four   -- for this text's walks alone
set_option linter.unusedVariables false
set_option linter.unusedSimpArgs false
def slices_Contains_int64_int64.f (k : Nat) (l0 : List Int) (a1 : Int) : Option (Bool) := (slices_Index_int64_int64.f k l0 a1).bind fun t699 => (some (decide (t699 ≥ 0)))
end Go.Proofs.Ytaapbnhggfmlpaa.P
end
section
namespace Go.Proofs.Ytaapbnhggfmlpaa.P
open Go.RowKit Go.Proofs.YtaapbnhggfmlpaaW.PrintWords Go.Proofs.YtaapbnhggfmlpaaW.PrintLast Go.Proofs.YtaapbnhggfmlpaaW.PrintMore
attribute [local go_sem] max2_int min2_int max_two min_two max_three min_three max_four min_four   -- for this text's walks alone
set_option linter.unusedVariables false
set_option linter.unusedSimpArgs false
def impl_Bundle_weight.f (l0_0 : List (List Int)) (l1 : List Int) (a2 : Int) : Option (Int) := if 0 ≤ a2 then (if a2 < (l1.length : Int) then (if 0 ≤ (rd l1 a2) then (if (rd l1 a2) < (l0_0.length : Int) then (if 0 ≤ (wrap64 (a2 + 1)) then (if (wrap64 (a2 + 1)) < (l1.length : Int) then (if 0 ≤ (rd l1 (wrap64 (a2 + 1))) then (if (rd l1 (wrap64 (a2 + 1))) < ((rd_Ls2 l0_0 (rd l1 a2)).length : Int) then (some (rd (rd_Ls2 l0_0 (rd l1 a2)) (rd l1 (wrap64 (a2 + 1))))) else (none)) else (none)) else (none)) else (none)) else (none)) else (none)) else (none)) else (none)
end Go.Proofs.Ytaapbnhggfmlpaa.P
end
section
namespace Go.Proofs.Ytaapbnhggfmlpaa.P
open Go.RowKit Go.Proofs.YtaapbnhggfmlpaaW.PrintWords Go.Proofs.YtaapbnhggfmlpaaW.PrintLast Go.Proofs.YtaapbnhggfmlpaaW.PrintMore
attribute [local go_sem] max2_int min2_int max_two min_two max_three min_three max_four min_four   -- for this text's walks alone
set_option linter.unusedVariables false
set_option linter.unusedSimpArgs false
def impl_Bundle_coupling.l0 : Nat → List Int → List Int → Int → Int → Int → List (List Int) → Option (Int)
 | 0, _, _, _, _, _, _ => none
 | k + 1, x1, x2, x7, x11, x12, x1000 => if x12 < x11 then ((slices_Contains_int64_int64.f k x2 (wrap64 (x12 + 1))).bind fun t704 => (if t704 = true then (impl_Bundle_coupling.l0 k x1 x2 x7 x11 (wrap64 (x12 + 1)) x1000) else ((impl_Bundle_weight.f x1000 x1 x12).bind fun t705 => (impl_Bundle_coupling.l0 k x1 x2 (wrap64 (x7 + t705)) x11 (wrap64 (x12 + 1)) x1000)))) else (some x7)
def impl_Bundle_coupling.f (k : Nat) (l0_0 : List (List Int)) (l1 : List Int) (l2 : List Int) : Option (Int) := impl_Bundle_coupling.l0 k l1 l2 0 (wrap64 ((l1.length : Int) - 1)) 0 l0_0
end Go.Proofs.Ytaapbnhggfmlpaa.P
end
section
namespace Go.Proofs.Ytaapbnhggfmlpaa.P
open Go.RowKit Go.Proofs.YtaapbnhggfmlpaaW.PrintWords Go.Proofs.YtaapbnhggfmlpaaW.PrintLast Go.Proofs.YtaapbnhggfmlpaaW.PrintMore
attribute [local go_sem] max2_int min2_int max_two min_two max_three min_three max_four min_four   -- for this text's walks alone
set_option linter.unusedVariables false
set_option linter.unusedSimpArgs false
end Go.Proofs.Ytaapbnhggfmlpaa.P
end
section
set_option linter.unusedVariables false
namespace Go.Proofs.Ytaapbnhggfmlpaa.B
open Go.RowKit Go.Proofs.Ytaapbnhggfmlpaa.P Go.Proofs.YtaapbnhggfmlpaaW.PrintWords Go.Proofs.YtaapbnhggfmlpaaW.PrintLast Go.Proofs.YtaapbnhggfmlpaaW.PrintMore Go.Proofs.Ytaapbnhggfmlpaa.A
/-- An order as a list of wires. -/
structure OrdN (n : Nat) (os : List Nat) : Prop where
  len : os.length = n
  nd : os.Nodup
  lt : ∀ v ∈ os, v < n
theorem up_getD_any (S : List Nat) (i : Nat) : (up S).getD i 0 = ((S.getD i 0 : Nat) : Int) := by
  unfold up
  simp only [List.getD_eq_getElem?_getD, List.getElem?_map]
  cases S[i]? <;> simp
theorem index0 (xs : List Int) (a : Int) (hl : xs.length ≤ 1048576) : ∀ (d k i : Nat), xs.length - i = d → d < k → i ≤ xs.length → ∃ r, slices_Index_int64_int64.l0 k xs a xs.length i = some r ∧ (0 ≤ r ↔ a ∈ xs.drop i) := by
  intro d
  induction d with
  | zero =>
    intro k i hd hk hi
    obtain ⟨k, rfl⟩ : ∃ m, k = m + 1 := ⟨k - 1, by omega⟩
    simp only [slices_Index_int64_int64.l0]
    rw [if_neg (by omega)]
    refine ⟨-1, rfl, ?_⟩
    rw [List.drop_eq_nil_of_le (by omega)]
    simp
  | succ d ih =>
    intro k i hd hk hi
    obtain ⟨k, rfl⟩ : ∃ m, k = m + 1 := ⟨k - 1, by omega⟩
    simp only [slices_Index_int64_int64.l0]
    have hlt : i < xs.length := by omega
    rw [if_pos (by omega), if_pos (by omega), if_pos (by omega), rd_nat]
    rw [List.drop_eq_getElem_cons hlt]
    have e : xs.getD i 0 = xs[i] := by simp [List.getD_eq_getElem?_getD, hlt]
    rw [e]
    by_cases c : a = xs[i]
    · rw [if_pos c]
      exact ⟨i, rfl, ⟨fun _ => by rw [List.mem_cons]; exact .inl c, fun _ => by omega⟩⟩
    · rw [if_neg c, w64s hlt (by omega)]
      obtain ⟨r, hr, h⟩ := ih k (i + 1) (by omega) (by omega) (by omega)
      exact ⟨r, hr, h.trans ⟨fun h => List.mem_cons_of_mem _ h, fun h => (List.mem_cons.1 h).resolve_left c⟩⟩
theorem contains (xs : List Int) (a : Int) (hl : xs.length ≤ 1048576) (k : Nat) (hk : xs.length < k) : slices_Contains_int64_int64.f k xs a = some (decide (a ∈ xs)) := by
  unfold slices_Contains_int64_int64.f slices_Index_int64_int64.f
  obtain ⟨r, hr, h⟩ := index0 xs a hl xs.length k 0 rfl hk (by omega)
  rw [show (0 : Int) = ((0 : Nat) : Int) from rfl, hr]
  rw [List.drop_zero] at h
  simp only [Option.bind_some]
  congr 1
  rw [decide_eq_decide]
  exact h
section
variable {l : List (List Int)} (V : Valid l)
include V
end
/-- The wires that follow, each with whether a shield stands ahead of it. -/
def fl (sh : List Int) : Nat → List Nat → List (Nat × Bool)
  | _, [] => []
  | j, i :: r => (i, decide ((j : Int) ∈ sh)) :: fl sh (j + 1) r
theorem weight {l : List (List Int)} (V : Valid l) {os : List Nat} (hlt : ∀ v ∈ os, v < l.length) (i : Nat) (hi : i + 1 < os.length) (hm : os.length ≤ 1048576) : impl_Bundle_weight.f l (up os) i = some (Wt l (os.getD i 0) (os.getD (i + 1) 0)) := by
  have a1 := hlt (os.getD i 0) (getD_mem (by omega))
  have a2 := hlt (os.getD (i + 1) 0) (getD_mem (by omega))
  have hr := V.row (os.getD i 0) a1
  unfold impl_Bundle_weight.f
  rw [if_pos (by omega), if_pos (by rw [up_length]; omega), rd_nat, up_getD_any, if_pos (by omega), if_pos (by omega), w64 (by omega), show (i : Int) + 1 = ((i + 1 : Nat) : Int) by omega, if_pos (by omega), if_pos (by rw [up_length]; omega), rd_nat, up_getD_any, if_pos (by omega), rdL_nat, hr, if_pos (by omega), rd_nat]
  rfl
theorem coupling0 {l : List (List Int)} (V : Valid l) (sh : List Int) (hs : sh.length ≤ 1048576) (os : List Nat) (hlt : ∀ v ∈ os, v < l.length) (hm : os.length ≤ 9) : ∀ (rest : List Nat) (a i k : Nat) (acc : Int), os.drop i = a :: rest → rest.length + sh.length + 2 ≤ k → 0 ≤ acc → acc ≤ 1000 * i →
    impl_Bundle_coupling.l0 k (up os) sh acc (wrap64 ((up os).length - 1)) i l = some (acc + pathC (Wt l) a (fl sh (i + 1) rest)) := by
  intro rest
  induction rest with
  | nil =>
    intro a i k acc hd hk h0 h1
    obtain ⟨k, rfl⟩ : ∃ m, k = m + 1 := ⟨k - 1, by omega⟩
    have hlen : os.length = i + 1 := by
      have := congrArg List.length hd
      simp at this
      omega
    simp only [impl_Bundle_coupling.l0]
    rw [up_length, w64 (by omega), if_neg (by omega)]
    simp [fl, pathC]
  | cons b rest ih =>
    intro a i k acc hd hk h0 h1
    obtain ⟨k, rfl⟩ : ∃ m, k = m + 1 := ⟨k - 1, by omega⟩
    have hlen : i + 1 < os.length := by
      have := congrArg List.length hd
      simp at this
      omega
    have hd' : os.drop (i + 1) = b :: rest := by
      rw [← List.drop_drop, hd]
      rfl
    have ea : os.getD i 0 = a := by
      have := congrArg (fun x => x.getD 0 0) hd
      simpa [List.getD_eq_getElem?_getD] using this
    have eb : os.getD (i + 1) 0 = b := by
      have := congrArg (fun x => x.getD 0 0) hd'
      simpa [List.getD_eq_getElem?_getD] using this
    have hb := V.bound a b (by rw [← ea]; exact hlt _ (getD_mem (by omega))) (by rw [← eb]; exact hlt _ (getD_mem (by omega)))
    simp only [List.length_cons] at hk
    have e1 : ((i : Int) + 1) = ((i + 1 : Nat) : Int) := by omega
    conv => lhs; unfold impl_Bundle_coupling.l0
    rw [if_pos (by rw [up_length, w64 (by omega)]; omega), w64 (x := (i : Int) + 1) (by omega), e1, contains sh _ hs k (by omega)]
    simp only [Option.bind_some]
    by_cases c : ((i + 1 : Nat) : Int) ∈ sh
    · rw [decide_eq_true c]
      simp only [if_true]
      rw [ih b (i + 1) k acc hd' (by omega) h0 (by omega)]
      simp only [fl, pathC]
      rw [decide_eq_true c]
      simp
    · rw [decide_eq_false c]
      simp only [Bool.false_eq_true, if_false]
      rw [weight V hlt i hlen (by omega), ea, eb]
      simp only [Option.bind_some]
      rw [w64 (by omega), ih b (i + 1) k (acc + Wt l a b) hd' (by omega) (by omega) (by omega)]
      simp only [fl, pathC]
      rw [decide_eq_false c]
      simp only [Bool.false_eq_true, if_false, Option.some.injEq]
      omega
theorem coupling {l : List (List Int)} (V : Valid l) (sh : List Int) (hs : sh.length ≤ 1048576) {a : Nat} {rest : List Nat} (hO : OrdN l.length (a :: rest)) (k : Nat) (hk : sh.length + 20 ≤ k) :
    impl_Bundle_coupling.f k l (up (a :: rest)) sh = some (pathC (Wt l) a (fl sh 1 rest)) := by
  unfold impl_Bundle_coupling.f
  have hlen := hO.len
  have hn := V.le
  simp only [List.length_cons] at hlen
  have := coupling0 V sh hs (a :: rest) hO.lt (by simp; omega) rest a 0 k 0 rfl (by omega) (by omega) (by omega)
  simpa using this
end Go.Proofs.Ytaapbnhggfmlpaa.B
end
section
set_option linter.unusedVariables false
set_option linter.unusedSimpArgs false
namespace Go.Proofs.Ytaapbnhggfmlpaa.P
open Go.RowKit Go.Proofs.YtaapbnhggfmlpaaW.PrintWords Go.Proofs.YtaapbnhggfmlpaaW.PrintLast Go.Proofs.YtaapbnhggfmlpaaW.PrintMore
open Go.Proofs.Ytaapbnhggfmlpaa.M Go.Proofs.Ytaapbnhggfmlpaa.A
open Go.Proofs.Ytaapbnhggfmlpaa.B (Valid validBundle in_impl)
end Go.Proofs.Ytaapbnhggfmlpaa.P
end
section
set_option linter.unusedVariables false
namespace Go.Proofs.Ytaapbnhggfmlpaa.B
open Go.RowKit Go.Proofs.Ytaapbnhggfmlpaa.P Go.Proofs.YtaapbnhggfmlpaaW.PrintWords Go.Proofs.YtaapbnhggfmlpaaW.PrintLast Go.Proofs.YtaapbnhggfmlpaaW.PrintMore Go.Proofs.Ytaapbnhggfmlpaa.A
theorem ucnt_empty : ∀ n, ucnt n 0 = n := by
  intro n
  induction n with
  | zero => rfl
  | succ n ih => rw [ucnt_succ, ih]; simp
theorem ucnt_one {n a : Nat} (ha : a < n) : ucnt n (2 ^ a) + 1 = n := by
  have h := ucnt_or n 0 a (by simp)
  rw [if_pos ha, Nat.zero_or, ucnt_empty] at h
  exact h
theorem tb_pow {a i : Nat} (h : i ≠ a) : (2 ^ a).testBit i = false := by
  rw [Nat.testBit_two_pow]
  simp
  exact fun e => h e.symm
section
variable {n : Nat} {W : Nat → Nat → Int} {fin : Int}
theorem cmp_ord {a S : Nat} {p : List (Nat × Bool)} {c : Int} (ha : a < n) (h : Cmp n W fin (2 ^ a) a S p c) : OrdN n (a :: p.map Prod.fst) := by
  have h1 := h.len
  have h2 := ucnt_one ha
  obtain ⟨h3, h4⟩ := h.nodup
  refine ⟨by simp; omega, List.nodup_cons.2 ⟨fun hm => ?_, h3⟩, fun v hv => ?_⟩
  · have := (h4 a hm).2
    simp [Nat.testBit_two_pow_self] at this
  · rcases List.mem_cons.1 hv with rfl | hv
    · exact ha
    · exact (h4 v hv).1
theorem ord_cmp {a : Nat} {p : List (Nat × Bool)} (h : OrdN n (a :: p.map Prod.fst)) (hf : fin < 0 ∨ (((p.map Prod.fst).getLastD a : Nat) : Int) = fin) : Cmp n W fin (2 ^ a) a (trues p) p (pathC W a p) := by
  have ha : a < n := h.lt a (List.mem_cons_self ..)
  obtain ⟨h1, h2⟩ := List.nodup_cons.1 h.nd
  have h3 := h.len
  have h4 := ucnt_one ha
  refine Cmp.of p (2 ^ a) a (Nat.pow_lt_pow_right (by decide) ha) h2 (fun i hi => ⟨h.lt i (List.mem_cons_of_mem _ hi), tb_pow fun e => h1 (e ▸ hi)⟩) (by simp at h3; omega) hf
end
/-- The first ones with shields. -/
def flagged : List Nat → Nat → List (Nat × Bool)
  | [], _ => []
  | i :: r, 0 => (i, false) :: flagged r 0
  | i :: r, s + 1 => (i, true) :: flagged r s
theorem flagged_fst : ∀ (r : List Nat) (s : Nat), (flagged r s).map Prod.fst = r
  | [], _ => rfl
  | i :: r, 0 => by simp [flagged, flagged_fst r 0]
  | i :: r, s + 1 => by simp [flagged, flagged_fst r s]
theorem flagged_trues : ∀ (r : List Nat) (s : Nat), s ≤ r.length → trues (flagged r s) = s
  | [], s, h => by simp at h; subst h; rfl
  | i :: r, 0, _ => by have := flagged_trues r 0 (Nat.zero_le _); simp [flagged, trues] at this ⊢; exact this
  | i :: r, s + 1, h => by have := flagged_trues r s (by simpa using h); simp [flagged, trues] at this ⊢; exact this
theorem range_ord (n : Nat) (h : 1 ≤ n) : OrdN n (0 :: (List.range n).tail) := by
  have e : (0 :: (List.range n).tail) = List.range n := by
    obtain ⟨m, rfl⟩ : ∃ m, n = m + 1 := ⟨n - 1, by omega⟩
    rw [List.range_succ_eq_map]
    rfl
  rw [e]
  exact ⟨by simp, List.nodup_range, fun v hv => List.mem_range.1 hv⟩
section
variable {l : List (List Int)} (V : Valid l)
include V
open Classical in
theorem vb_true (k : Nat) (hk : 250 ≤ k) : impl_ValidBundle.f k l = some true := by
  rw [validBundle l k hk, decide_eq_true V]
theorem bestOrder (s : Nat) (hs : s + 1 ≤ l.length) : ∃ w p c, impl_BestOrder.f l s = some (up (w :: p.map Prod.fst), c, true) ∧ w < l.length ∧ Cmp l.length (Wt l) (-1) (2 ^ w) w s p c ∧
    ∀ a p', OrdN l.length (a :: p'.map Prod.fst) → trues p' = s → c ≤ pathC (Wt l) a p' ∧ (pathC (Wt l) a p' = c → lexLE (w :: p.map Prod.fst) (a :: p'.map Prod.fst)) := by
  have hn := V.le
  have hcmp : ∀ a p', OrdN l.length (a :: p'.map Prod.fst) → trues p' = s → Cmp l.length (Wt l) (-1) (2 ^ a) a s p' (pathC (Wt l) a p') := by
    intro a p' h e
    rw [← e]
    exact ord_cmp h (.inl (by decide))
  unfold impl_BestOrder.f
  rw [vb_true V 300 (by omega)]
  simp only [Option.bind_some]
  rw [if_pos ⟨trivial, by omega, by omega⟩]
  rcases orderF_best (fin := -1) V s (by omega) (List.range l.length) (fun w hw => List.mem_range.1 hw) List.pairwise_lt_range with ⟨_, h⟩ | ⟨w, hw, p, c, h1, h2, h3⟩
  · have ho := range_ord l.length (by omega)
    have hl := ho.len
    simp only [List.length_cons] at hl
    exact absurd (hcmp 0 (flagged (List.range l.length).tail s) (by rw [flagged_fst]; exact ho) (flagged_trues _ _ (by omega))) (h 0 (List.mem_range.2 (by omega)) _ _)
  · refine ⟨w, p, c, by rw [h1], List.mem_range.1 hw, h2, fun a p' ho e => ?_⟩
    exact h3 a (List.mem_range.2 (ho.lt a (List.mem_cons_self ..))) p' _ (hcmp a p' ho e)
end
end Go.Proofs.Ytaapbnhggfmlpaa.B
end
section
namespace Go.Proofs.Ytaapbnhggfmlpaa.B
open Go.RowKit Go.Proofs.Ytaapbnhggfmlpaa.P Go.Proofs.YtaapbnhggfmlpaaW.PrintWords Go.Proofs.YtaapbnhggfmlpaaW.PrintLast Go.Proofs.Ytaapbnhggfmlpaa.M Go.Proofs.Ytaapbnhggfmlpaa.A
theorem held0 (zs : List Int) (hl : zs.length ≤ 1048576) (hz : ∀ j, j < zs.length → zs.getD j 0 = 1 + j) : ∀ (d k i : Nat), zs.length - i = d → d < k → i ≤ zs.length → laws_heldInt64S.l0 k zs (1 + (i : Int)) i = some (1 + (zs.length : Int)) := by
  intro d
  induction d with
  | zero =>
    intro k i hd hk hi
    obtain ⟨k, rfl⟩ : ∃ m, k = m + 1 := ⟨k - 1, by omega⟩
    simp only [laws_heldInt64S.l0]
    rw [if_neg (by omega), show i = zs.length by omega]
  | succ d ih =>
    intro k i hd hk hi
    obtain ⟨k, rfl⟩ : ∃ m, k = m + 1 := ⟨k - 1, by omega⟩
    have hlt : i < zs.length := by omega
    simp only [laws_heldInt64S.l0]
    rw [if_pos (by omega), if_pos (by omega), rd_nat, if_pos (hz i hlt), w64s hlt (by omega), w64 (by omega), show (1 : Int) + i + 1 = 1 + ((i + 1 : Nat) : Int) by push_cast; omega]
    exact ih k (i + 1) (by omega) (by omega) (by omega)
theorem held_f (zs : List Int) (n : Nat) (hn : zs.length = n) (hl : n ≤ 1048576) (hz : ∀ j, j < n → zs.getD j 0 = 1 + j) (k : Nat) (hk : n < k) : laws_heldInt64S.f k zs 1 = some (1 + (n : Int)) := by
  subst hn
  exact held0 zs hl hz zs.length k 0 rfl hk (by omega)
theorem spec_in {l : List (List Int)} (V : Valid l) (a : Int) : spec_l00In.f a 0 (wrap64 ((l.length : Int) - 1)) = some (decide (a ≥ 0 ∧ a ≤ (l.length : Int) - 1)) := by
  have h1 := V.pos
  have h2 := V.le
  rw [w64 (by omega), in_spec]
theorem same_BestOrder (l : List (List Int)) (a1 : Int) : ∃ r1 r2 r3, Evl (fun k => spec_BestOrder.f k l a1) (r1, r2, r3) ∧ impl_BestOrder.f l a1 = some (r1, r2, r3) ∧ r1.length ≤ 9 := by
  by_cases V : Valid l
  · by_cases c : a1 ≥ 0 ∧ a1 ≤ (l.length : Int) - 1
    · have hn := V.le
      obtain ⟨s, rfl⟩ : ∃ s : Nat, a1 = s := ⟨a1.toNat, by omega⟩
      obtain ⟨w, p, c2, h1, h2, h3, _⟩ := bestOrder V s (by omega)
      have h4 : orderF l (-1) s (List.range l.length) = (up (w :: p.map Prod.fst), c2, true) := by
        unfold impl_BestOrder.f at h1
        rw [vb_true V 300 (by omega)] at h1
        simp only [Option.bind_some] at h1
        rw [if_pos ⟨trivial, by omega, by omega⟩] at h1
        exact Option.some.inj h1
      refine ⟨_, _, _, ?_, h1, ?_⟩
      · obtain ⟨K, hK⟩ := follow (first := -1) V (show s ≤ 8 by omega) (List.range l.length) List.pairwise_lt_range (fun w => by simp) h4
        refine ⟨K + 320, fun k hk => ?_⟩
        show spec_BestOrder.f k l _ = _
        unfold spec_BestOrder.f spec_l10Count.f
        rw [l10Is l k (by omega)]
        simp only [Option.bind_some]
        rw [if_pos (by simpa using V), spec_in V]
        simp only [Option.bind_some]
        rw [if_pos (by simpa using c), show spec_l10Follow.f k l s (-1) (-1) = some _ from hK k (by omega)]
        rfl
      · have := (cmp_ord h2 h3).len
        rw [up_length, this]
        exact hn
    · refine ⟨[], 0, false, ⟨320, fun k hk => ?_⟩, ?_, by simp⟩
      · show spec_BestOrder.f k l _ = _
        unfold spec_BestOrder.f spec_l10Count.f
        rw [l10Is l k (by omega)]
        simp only [Option.bind_some]
        rw [if_pos (by simpa using V), spec_in V, decide_eq_false c]
        simp
      · unfold impl_BestOrder.f
        rw [vb_true V 300 (by omega)]
        simp only [Option.bind_some]
        rw [if_neg (fun h => c ⟨h.2.1, h.2.2⟩)]
  · refine ⟨[], 0, false, ⟨320, fun k hk => ?_⟩, ?_, by simp⟩
    · show spec_BestOrder.f k l _ = _
      unfold spec_BestOrder.f spec_l10Count.f
      rw [l10Is l k (by omega)]
      simp only [Option.bind_some]
      rw [if_neg (by simpa using V)]
      simp
    · unfold impl_BestOrder.f
      rw [validBundle l 300 (by omega)]
      simp only [Option.bind_some]
      rw [if_neg (fun h => V (by simpa using h.1))]
theorem exact_BestOrder (l : List (List Int)) (a1 : Int) (hl : l.length ≤ 9223372036854775807) (hm : ∀ r ∈ l, r.length ≤ 9223372036854775807) :
    ∃ k z, laws_szBundle.f k l 1048576 = some z ∧ (¬ z < 0 → l.length ≤ 1048576 ∧ (∀ j, j < l.length → (l.getD j []).length ≤ 1048576) ∧ laws_toBundle.f k l = some l ∧ laws_eqBundle.f k l l = some true ∧
      ∃ r1 r2 r3 zs, spec_BestOrder.f k l a1 = some (r1, r2, r3) ∧ impl_BestOrder.f l a1 = some (r1, r2, r3) ∧ laws_eqInt64S.f k r1 r1 = some true ∧ laws_markInt64S.f k r1 1 = some (1 + (r1.length : Int), zs) ∧ zs.length = r1.length ∧ laws_heldInt64S.f k zs 1 = some (1 + (r1.length : Int))) := by
  obtain ⟨r1, r2, r3, ⟨K, hK⟩, hi, hr⟩ := same_BestOrder l a1
  obtain ⟨z, hz, hz'⟩ := szBundle l hl hm (K + 2097157) (by omega)
  refine ⟨K + 2097157, z, hz, fun c => ?_⟩
  obtain ⟨h1, h2⟩ := hz' (by omega)
  obtain ⟨zs, hs1, hs2, hs3⟩ := mark_f r1 (by omega) 1 ⟨by decide, by decide⟩ (K + 2097157) (by omega)
  exact ⟨h1, fun j hj => h2 _ (getD_mem hj), toBundle l h1 h2 _ (by omega), eqBundle l h1 h2 _ (by omega), r1, r2, r3, zs, hK _ (by omega), hi, eqI r1 (by omega) _ (by omega), hs1, hs2, held_f zs r1.length hs2 (by omega) hs3 _ (by omega)⟩
end Go.Proofs.Ytaapbnhggfmlpaa.B
end
section
namespace Go.Proofs.Ytaapbnhggfmlpaa.R
open Go.ChangeShapes Go.WideShapes Go.RowKit Go.Deep Go.Joins Go.Proofs.YtaapbnhggfmlpaaW.PrintWords
section
variable {H : Type} {enc : TypeId × Value → H} {P : Program} {w : World} {held : Bool}
theorem C_nil_ {α : Type} (d : Kd α) (w : World) : Kd.C d w none 0 [] := ⟨rfl, by omega, fun h => absurd h (by omega)⟩
theorem C_int {k : IntKind} {a : Addr} {n : Nat} {zs : List Int} (hn : zs.length = n) (hm : n ≤ 9223372036854775807) (h : ∀ j, j < n → w.cell? (a.add j) = some (.int k (zs.getD j 0))) : Kd.C (Kd.int k) w (some a) n zs :=
  Kd.C_of_reads (d := (0 : Int)) (h1 := fun _ => rfl) ⟨hn, hm, fun _ => ⟨a, rfl, fun j hj => h j hj⟩⟩
theorem rd_int_rows {t e q : TypeId} {k : IntKind} {fuel : Nat} {cs : List Value} {x : DataW H × List MemPlace} (ht : P.underlying t = some (.slice e)) (he : P.underlying e = some (.slice q)) (hq : P.underlying q = some (.int k))
    (ce : P.cellsOf e = 1) (cq : P.cellsOf q = 1) (h : DataW.trod enc P w 0 (fun _ => true) held fuel t cs = some x) :
    ∃ (a : Option Addr) (cap : Nat) (l : List (List Int)), cs = [.slice a l.length cap] ∧ l.length ≤ cap ∧ Kd.C (Kd.slice q (Kd.int k)) w a l.length l ∧ (∀ r ∈ l, ∀ n ∈ r, (Lit.int k n).wf = true) ∧ ∀ r ∈ l, r.length ≤ 9223372036854775807 := by
  rcases open_int_rows ht he hq ce cq h with ⟨hcs, _⟩ | ⟨a, len, cap, A, L, C, Z, hcs, _, hl, hm, _, hr⟩
  · exact ⟨none, 0, [], hcs, Nat.le_refl _, C_nil_ _ _, by simp, by simp⟩
  · have hlen : ((List.range len).map fun r => (Z r).take (L r)).length = len := by simp
    refine ⟨some a, cap, (List.range len).map fun r => (Z r).take (L r), by rw [hlen]; exact hcs, by rw [hlen]; exact hl, ?_, ?_, ?_⟩
    · refine ⟨rfl, by rw [hlen]; unfold maxLen at hm; omega, fun _ => ⟨a, rfl, fun j p hj => ?_⟩⟩
      have hjl : j < len := by
        have := (List.getElem?_eq_some_iff.1 hj).1
        rwa [hlen] at this
      have hp : p = (Z j).take (L j) := by
        rw [List.getElem?_map, List.getElem?_range hjl] at hj
        simpa using hj.symm
      obtain ⟨h1, h2, h3, h4, h5, h6, h7⟩ := hr j (by omega)
      have hpl : p.length = L j := by rw [hp, List.length_take]; omega
      refine ⟨[.slice (A j) (L j) (C j)], rfl, ⟨A j, C j, by rw [hpl], by rw [hpl]; exact h2, ?_⟩, ?_⟩
      · cases hA : A j with
        | none =>
          have : L j = 0 := by have := h6 hA; omega
          have hp0 : p = [] := List.eq_nil_of_length_eq_zero (by omega)
          subst hp0
          exact C_nil_ _ _
        | some a' =>
          obtain ⟨_, h8⟩ := h7 a' hA
          refine C_int rfl (by rw [hpl]; unfold maxLen at h3; omega) (fun i hi => ?_)
          rw [hpl] at hi
          rw [h8 i (by omega), hp]
          simp [hi]
      · intro i u hu
        match i, hu with
        | 0, hu => simp at hu; subst hu; rw [show j * (Kd.slice q (Kd.int k)).sz + 0 = j from Nat.mul_one j]; exact h1
    · intro r hr0 n hn
      obtain ⟨j, hj, rfl⟩ := List.mem_map.1 hr0
      have hjl := List.mem_range.1 hj
      obtain ⟨h1, h2, h3, h4, h5, h6, h7⟩ := hr j (by omega)
      exact h5 n (List.mem_of_mem_take hn)
    · intro r hr0
      obtain ⟨j, hj, rfl⟩ := List.mem_map.1 hr0
      have hjl := List.mem_range.1 hj
      obtain ⟨h1, h2, h3, h4, h5, h6, h7⟩ := hr j (by omega)
      rw [List.length_take]; unfold maxLen at h3; omega
theorem open_agg1 {base : Nat} {spare : Nat → Bool} {r : Reach} {b0 : Nat} {t : TypeId} {f0 : Field} {v : Value} {d : DataW H} {p : List MemPlace} (hs : P.underlying t = some (.struct #[f0])) (hone : oneCellFields P #[f0] = true) (hC : P.cellsOf t = 1)
    (hv : Value.okWide P w r b0 t v) (h : DataW.Trod enc P w base spare held t v d p) :
    ∃ (v0 : Value) (y0 : DataW H × List MemPlace) (n : Nat), v = .agg #[v0] ∧ DataW.trod enc P w base spare held n f0.type [v0] = some y0 := by
  obtain ⟨cs, rfl, hsz⟩ := okWide_struct hs hv
  obtain ⟨c0, rfl⟩ : ∃ c0, cs = #[c0] := by
    have hsz' := hsz.trans hC
    obtain ⟨l⟩ := cs
    match l, hsz' with
    | [c0], _ => exact ⟨c0, rfl⟩
  obtain ⟨fuel, hf⟩ := h
  obtain ⟨y0, n, hx, _, h0⟩ := trod_struct1 hs hf
  obtain ⟨o0, k0⟩ := hone_of hone 0 f0 rfl
  exact ⟨c0, y0, n, rfl, by simpa [Value.cells, o0, k0] using h0⟩
end
end Go.Proofs.Ytaapbnhggfmlpaa.R
end
section
namespace Go.Proofs.Ytaapbnhggfmlpaa.fnExactBestOrder
open Go.ChangeShapes Go.WideShapes Go.ChangeAt Go.RowKit
set_option linter.unusedVariables false
theorem own : ownKnob Try.prog.godebug = none := by kernel_rfl
theorem laidOut : laidOutB Try.prog = true := by kernel_rfl
set_option maxRecDepth 100000 in
theorem lifted (os : Os) (started : os.Started) (H : Type) (enc : TypeId × Value → H) :
    ReturnsInHanded {} Try.checked os 11 .any (Rows.fnExactBestOrderSpec.pre6 enc Try.prog Try.f11 Rows.fnExactBestOrderRow.domain false) (Rows.fnExactBestOrderSpec.post enc Try.prog Try.f11 false true false false) := by
  refine returnsInHanded_of_change_sized (C := Try.checked) own started (by kernel_rfl) Try.func11
    (ChangeSpec.witness6 (enc := enc) (C := Try.checked) false ⟨#[], #[.agg #[.slice none 0 0], .int .i64 0], []⟩ 8 (by kernel_rfl) (by kernel_rfl) (by kernel_rfl) (by kernel_rfl)) ?_
  intro W base args ds gs before hval0 hW hcnd hsz0 _
  have hval : ∀ (j : Nat) t v, Try.f11.params[j]? = some t → args[j]? = some v → Value.okWide Try.prog W .any base t v := hval0
  have hW' := hW
  obtain ⟨p, q, hA0, hV, rfl, hfz, hnd⟩ := hW
  have hA : DataW.TrodAll enc Try.prog W 0 (fun _ => true) true Try.f11.params.toList args.toList ds p := hA0
  rw [Try.params11] at hA hval
  obtain ⟨v0, vs0, d0, ds0, p0, q0, hargs, rfl, rfl, h0, r0⟩ := trodAll_cons hA
  obtain ⟨v1, vs1, d1, ds1, p1, q1, rfl, rfl, rfl, h1, r1⟩ := trodAll_cons r0
  obtain ⟨rfl, rfl, rfl⟩ := trodAll_nil r1
  obtain rfl : args = #[v0, v1] := by cases args; simp_all
  obtain ⟨rfl, rfl⟩ := trodVars_none hV
  have k0 := h0
  have lt0 : ∀ x ∈ p0, x.block < W.heap.size := by obtain ⟨m, hm⟩ := k0; exact DataW.trod_lt m _ _ _ hm
  obtain ⟨u0, y0, m0, rfl, hy0⟩ := R.open_agg1 Try.underlying41 (by kernel_rfl) (by kernel_rfl) (hval 0 41 v0 rfl rfl) h0
  obtain ⟨A0, cap0, l0, hcs0, hc0, hr0, hw0, hm0⟩ := R.rd_int_rows Try.underlying39 Try.underlying28 Try.underlying2 (by kernel_rfl) (by kernel_rfl) hy0
  obtain rfl : u0 = .slice A0 l0.length cap0 := by simpa using hcs0
  have k1 := h1
  have lt1 : ∀ x ∈ p1, x.block < W.heap.size := by obtain ⟨m, hm⟩ := k1; exact DataW.trod_lt m _ _ _ hm
  obtain ⟨a1, rfl⟩ := okWide_int Try.underlying2 (hval 1 2 v1 rfl rfl)
  clear hA0 hval0 hsz0
  have main : Calls Try.prog 11 #[.agg #[.slice A0 l0.length cap0], .int .i64 a1] W fun e w' => e = .returned (.bool true) ∧ Below W.heap.size W w' := by
    obtain ⟨k, z, hz, hP⟩ := B.exact_BestOrder l0 a1 (by have := YtaapbnhggfmlpaaW.PrintWords.Kd.C_max hr0; exact this) hm0
    by_cases c : z < 0
    · exact P.exactBestOrder_no k A0 cap0 l0 a1 z W hr0 hc0 hz c
    · obtain ⟨g1, g2, g3, g4, r1, r2, r3, zs, g5, g6, g7, g8, g9, g10⟩ := hP c
      exact P.exactBestOrder_yes k A0 cap0 l0 a1 z r1 r2 r3 zs W hr0 hc0 g1 g2 hz c g3 g5 g6 g4 g7 g8 g9 g10
  refine main.mono fun e W' ⟨he, bel⟩ => ?_
  subst he
  exact ⟨_, rfl, _, _, _, [], _, [], hW', trodAll_mk1 (shut_bool Try.underlying4 _), (trodAll_cons_mk (Below.trod laidOut (by kernel_rfl) (of_decide_eq_true (by kernel_rfl)) k0 bel lt0) (trodAll_cons_mk (Below.trod laidOut (by kernel_rfl) (of_decide_eq_true (by kernel_rfl)) k1 bel lt1) trodAll_mk0)), rfl, bel.frame _, fun h => by cases h⟩
theorem over : Rows.fnExactBestOrderRow.holds Try.pinned (OpenSpec.ofChange Rows.fnExactBestOrderSpec) :=
  OpenClaim.holds_of_wide 11 Try.f11 rfl rfl rfl rfl rfl rfl rfl ⟨rfl, rfl, rfl, rfl, rfl⟩ rfl rfl rfl rfl rfl (by kernel_rfl) Try.func11 (by kernel_rfl)
    (of_decide_eq_true (by kernel_rfl)) (by unfold Func.isWrapper; first | (rw [if_pos (by decide +kernel)]; kernel_rfl) | (rw [if_neg (by decide +kernel)]; exact ⟨rfl, rfl⟩))
    (fun os started H enc _ => lifted os started H enc)
theorem proved : Rows.FnExactBestOrderSaid := over
#print axioms proved
end Go.Proofs.Ytaapbnhggfmlpaa.fnExactBestOrder
namespace Go.Proofs.Ytaapbnhggfmlpaa
/-- The row, under a short name, for the claim. -/
theorem fnExactBestOrder_holds : Rows.FnExactBestOrderSaid := fnExactBestOrder.proved
end Go.Proofs.Ytaapbnhggfmlpaa
end
