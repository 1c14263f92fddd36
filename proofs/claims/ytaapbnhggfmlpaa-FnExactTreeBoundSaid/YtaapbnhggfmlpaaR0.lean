/- How arguments that were read are told as lists of numbers: slices of whole numbers, slices of those, structs around them. -/
import Derived.Test.YtaapbnhggfmlpaaWWords
import Derived.Deep.Matrix
import Derived.Lib.SmallJoins
namespace Go.Proofs.Ytaapbnhggfmlpaa.R
open Go.ChangeShapes Go.WideShapes Go.RowKit Go.Deep Go.Joins Go.Proofs.YtaapbnhggfmlpaaW.PrintWords
section
variable {H : Type} {enc : TypeId × Value → H} {P : Program} {w : World} {held : Bool}

theorem C_nil_ {α : Type} (d : Kd α) (w : World) : Kd.C d w none 0 [] := ⟨rfl, by omega, fun h => absurd h (by omega)⟩

theorem C_int {k : IntKind} {a : Addr} {n : Nat} {zs : List Int} (hn : zs.length = n) (hm : n ≤ 9223372036854775807) (h : ∀ j, j < n → w.cell? (a.add j) = some (.int k (zs.getD j 0))) : Kd.C (Kd.int k) w (some a) n zs :=
  Kd.C_of_reads (d := (0 : Int)) (h1 := fun _ => rfl) ⟨hn, hm, fun _ => ⟨a, rfl, fun j hj => h j hj⟩⟩

theorem rd_ints {t e : TypeId} {k : IntKind} {fuel : Nat} {cs : List Value} {x : DataW H × List MemPlace} (ht : P.underlying t = some (.slice e)) (he : P.underlying e = some (.int k)) (ce : P.cellsOf e = 1)
    (h : DataW.trod enc P w 0 (fun _ => true) held fuel t cs = some x) :
    ∃ (a : Option Addr) (cap : Nat) (l : List Int), cs = [.slice a l.length cap] ∧ l.length ≤ cap ∧ Kd.C (Kd.int k) w a l.length l ∧ ∀ n ∈ l, (Lit.int k n).wf = true := by
  rcases open_ints ht he ce h with ⟨hcs, _⟩ | ⟨a, len, cap, zs, hcs, _, hl, hm, hz, _, hcell, hwz⟩
  · exact ⟨none, 0, [], hcs, Nat.le_refl _, C_nil_ _ _, by simp⟩
  · simp only [if_true] at hz
    have hlen : (zs.take len).length = len := by rw [List.length_take]; omega
    refine ⟨some a, cap, zs.take len, by rw [hlen]; exact hcs, by rw [hlen]; exact hl, ?_, fun n hn => hwz n (List.mem_of_mem_take hn)⟩
    refine C_int rfl (by rw [hlen]; unfold maxLen at hm; omega) (fun j hj => ?_)
    rw [hlen] at hj
    rw [hcell j (by omega)]
    simp [hj]

theorem rd_int_rows {t e q : TypeId} {k : IntKind} {fuel : Nat} {cs : List Value} {x : DataW H × List MemPlace} (ht : P.underlying t = some (.slice e)) (he : P.underlying e = some (.slice q)) (hq : P.underlying q = some (.int k))
    (ce : P.cellsOf e = 1) (cq : P.cellsOf q = 1) (h : DataW.trod enc P w 0 (fun _ => true) held fuel t cs = some x) :
    ∃ (a : Option Addr) (cap : Nat) (l : List (List Int)), cs = [.slice a l.length cap] ∧ l.length ≤ cap ∧ Kd.C (Kd.slice q (Kd.int k)) w a l.length l ∧ (∀ r ∈ l, ∀ n ∈ r, (Lit.int k n).wf = true) ∧ ∀ r ∈ l, r.length ≤ 9223372036854775807 := by
  rcases open_int_rows ht he hq ce cq h with ⟨hcs, _⟩ | ⟨a, len, cap, A, L, C, Z, hcs, _, hl, hm, _, hr⟩
  · exact ⟨none, 0, [], hcs, Nat.le_refl _, C_nil_ _ _, by simp, by simp⟩
  · have hlen : ((List.range len).map fun r => (Z r).take (L r)).length = len := by simp
    refine ⟨some a, cap, (List.range len).map fun r => (Z r).take (L r), by rw [hlen]; exact hcs, by rw [hlen]; exact hl, ?_, ?_, ?_⟩
    · refine ⟨rfl, by rw [hlen]; unfold maxLen at hm; omega, fun _ => ⟨a, rfl, fun j p hj => ?_⟩⟩
      have hjl : j < len := by
        have := (List.getElem?_eq_some_iff.1 hj).1
        rwa [hlen] at this
      have hp : p = (Z j).take (L j) := by
        rw [List.getElem?_map, List.getElem?_range hjl] at hj
        simpa using hj.symm
      obtain ⟨h1, h2, h3, h4, h5, h6, h7⟩ := hr j (by omega)
      have hpl : p.length = L j := by rw [hp, List.length_take]; omega
      refine ⟨[.slice (A j) (L j) (C j)], rfl, ⟨A j, C j, by rw [hpl], by rw [hpl]; exact h2, ?_⟩, ?_⟩
      · cases hA : A j with
        | none =>
          have : L j = 0 := by have := h6 hA; omega
          have hp0 : p = [] := List.eq_nil_of_length_eq_zero (by omega)
          subst hp0
          exact C_nil_ _ _
        | some a' =>
          obtain ⟨_, h8⟩ := h7 a' hA
          refine C_int rfl (by rw [hpl]; unfold maxLen at h3; omega) (fun i hi => ?_)
          rw [hpl] at hi
          rw [h8 i (by omega), hp]
          simp [hi]
      · intro i u hu
        match i, hu with
        | 0, hu => simp at hu; subst hu; rw [show j * (Kd.slice q (Kd.int k)).sz + 0 = j from Nat.mul_one j]; exact h1
    · intro r hr0 n hn
      obtain ⟨j, hj, rfl⟩ := List.mem_map.1 hr0
      have hjl := List.mem_range.1 hj
      obtain ⟨h1, h2, h3, h4, h5, h6, h7⟩ := hr j (by omega)
      exact h5 n (List.mem_of_mem_take hn)
    · intro r hr0
      obtain ⟨j, hj, rfl⟩ := List.mem_map.1 hr0
      have hjl := List.mem_range.1 hj
      obtain ⟨h1, h2, h3, h4, h5, h6, h7⟩ := hr j (by omega)
      rw [List.length_take]; unfold maxLen at h3; omega
theorem open_agg1 {base : Nat} {spare : Nat → Bool} {r : Reach} {b0 : Nat} {t : TypeId} {f0 : Field} {v : Value} {d : DataW H} {p : List MemPlace} (hs : P.underlying t = some (.struct #[f0])) (hone : oneCellFields P #[f0] = true) (hC : P.cellsOf t = 1)
    (hv : Value.okWide P w r b0 t v) (h : DataW.Trod enc P w base spare held t v d p) :
    ∃ (v0 : Value) (y0 : DataW H × List MemPlace) (n : Nat), v = .agg #[v0] ∧ DataW.trod enc P w base spare held n f0.type [v0] = some y0 := by
  obtain ⟨cs, rfl, hsz⟩ := okWide_struct hs hv
  obtain ⟨c0, rfl⟩ : ∃ c0, cs = #[c0] := by
    have hsz' := hsz.trans hC
    obtain ⟨l⟩ := cs
    match l, hsz' with
    | [c0], _ => exact ⟨c0, rfl⟩
  obtain ⟨fuel, hf⟩ := h
  obtain ⟨y0, n, hx, _, h0⟩ := trod_struct1 hs hf
  obtain ⟨o0, k0⟩ := hone_of hone 0 f0 rfl
  exact ⟨c0, y0, n, rfl, by simpa [Value.cells, o0, k0] using h0⟩
end
end Go.Proofs.Ytaapbnhggfmlpaa.R
