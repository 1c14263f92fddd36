/- A map from whole numbers to bools that holds just true: told as the list of its keys. What a look-up, a store, a deletion and len do to it. -/
import Derived.Maps.OwnSet
import Derived.WalkKit
import Derived.Deep.Draws
namespace Go.Proofs.Ytaapbnhggfmlpaa.M
open Go.Maps Go.RowKit

theorem plainElem_bool_inv {H : Type} {P : Program} {e : TypeId} (he : P.underlying e = some .bool) {v : Value} {z : DataW H × List MemPlace} (h : plainElem P e v = some z) : ∃ a, v = .bool a ∧ z = (.lit (.bool a), []) := by
  unfold plainElem at h
  rw [he] at h
  cases v <;> simp at h
  obtain ⟨rfl⟩ := h
  exact ⟨_, rfl, rfl⟩

structure BMap (P : Program) (t kt et : TypeId) (q : IntKind) : Prop where
  ht : P.underlying t = some (.map kt et)
  hk : P.underlying kt = some (.int q)
  he : P.underlying et = some .bool
  hz : ∀ w, (zeroValue et).run P w = .ok (.bool false) w

def BM (P : Program) (kt et : TypeId) (q : IntKind) (w : World) (b n : Nat) (S : List Int) : Prop :=
  ∃ D : DataW Unit, w.ownsMap P kt (plainElem P et) b n D ∧ Maps.size D = S.length ∧ ∀ a : Int, Maps.has D (.int q a) = decide (a ∈ S) ∧ D.atKey (.int q a) (.lit (.bool false)) = .lit (.bool (decide (a ∈ S)))

section
variable {P : Program} {t kt et : TypeId} {q : IntKind} {w : World} {b n : Nat} {S : List Int}

theorem BM.made (w : World) : BM P kt et q (w.alloc (.map #[] 0)) w.heap.size 0 [] :=
  ⟨.map [], World.ownsMap_made w P kt _, rfl, fun a => ⟨by simp [Maps.has], by simp [DataW.atKey]⟩⟩

theorem BM.kept {w' : World} {row : Option Nat} (h : BM P kt et q w b n S) (hg : w.grownBy w' row) (hne : some b ≠ row) : BM P kt et q w' b n S := by
  obtain ⟨D, ho, r⟩ := h
  exact ⟨D, ho.kept hg hne, r⟩
theorem BM.lt (h : BM P kt et q w b n S) : b < w.heap.size := by
  obtain ⟨D, ho, r⟩ := h
  exact ho.lt
theorem BM.mono {n' : Nat} (h : BM P kt et q w b n S) (hn : n ≤ n') : BM P kt et q w b n' S := by
  obtain ⟨D, ho, r⟩ := h
  exact ⟨D, ho.mono hn, r⟩
theorem BM.drew (h : BM P kt et q w b n S) : BM P kt et q w.drew b n S := h
theorem BM.drewN (h : BM P kt et q w b n S) (m : Nat) : BM P kt et q (w.drewN m) b n S := h
theorem BM.alloc (h : BM P kt et q w b n S) (o : Obj) : BM P kt et q (w.alloc o) b n S := h.kept (World.grownBy_alloc w o none) (by simp)
theorem BM.setCell (h : BM P kt et q w b n S) {a : Addr} (ha : b ≠ a.block) (u : Value) : BM P kt et q (w.setCell a u) b n S := by
  obtain ⟨D, ho, r⟩ := h
  exact ⟨D, ho.setCell ha u, r⟩
theorem BM.size_le (h : BM P kt et q w b n S) : S.length ≤ n := by
  obtain ⟨D, ho, hs, _⟩ := h
  rw [← hs]; exact ho.size_le

theorem BM.look (h : BM P kt et q w b n S) (B : BMap P t kt et q) {a : Int} (ha : (Lit.int q a).wf = true) :
    (Instr.lookup t (.map (some b)) (.int q a) false).run P w = .ok (.bool (decide (a ∈ S))) w := by
  obtain ⟨D, ho, hs, hat⟩ := h
  obtain ⟨v, ps, hrun, hv⟩ := ho.lookup (int_keyed B.hk) B.ht (B.hz w) (plainElem_bool B.he false) (keyOf_int_mk B.hk ha)
  obtain ⟨c, rfl, hc⟩ := plainElem_bool_inv B.he hv
  rw [hrun]
  have e := congrArg Prod.fst hc
  simp only at e
  rw [(hat a).2] at e
  injection e with e; injection e with e
  rw [e]

theorem key_is (a : Int) : WideAt.IsKeyLit (.int q a) := trivial

theorem BM.put (h : BM P kt et q w b n S) (B : BMap P t kt et q) (hn : n < maxLen) {a : Int} (ha : (Lit.int q a).wf = true) (hS : a ∉ S) :
    ∃ w', (Instr.mapUpdate t (.map (some b)) (.int q a) (.bool true)).run P w = .ok () w' ∧ BM P kt et q w' b (n + 1) (a :: S) ∧ w.mapTurned w' b := by
  obtain ⟨D, ho, hs, hat⟩ := h
  obtain ⟨w', hrun, h1, h2⟩ := ho.store (int_keyed B.hk) B.ht hn (keyOf_int_mk B.hk ha) (plainElem_bool B.he true)
  have hT := ho.tidy (int_keyed B.hk)
  refine ⟨w', hrun, ⟨_, h1, ?_, fun x => ?_⟩, h2⟩
  · rw [size_put hT, (hat a).1, if_neg (by simpa using hS), hs]; rfl
  · by_cases e : x = a
    · subst e
      exact ⟨by rw [has_put_same hT.isMap (key_is _)]; simp, by rw [atKey_put_same hT.isMap (key_is _)]; simp⟩
    · have ne : (Lit.int q x) ≠ Lit.int q a := fun e' => by injection e' with _ e'; exact e e'
      exact ⟨by rw [has_put_other ne, (hat x).1]; simp [e], by rw [atKey_put_other ne, (hat x).2]; simp [e]⟩

theorem BM.del (h : BM P kt et q w b n S) (hd : S.Nodup) (B : BMap P t kt et q) {a : Int} (ha : (Lit.int q a).wf = true) (ty : TypeId) :
    ∃ w', (Builtin.delete_ #[t, kt] ty #[.map (some b), .int q a]).run P w = .ok (.tuple #[]) w' ∧ BM P kt et q w' b n (S.erase a) ∧ w.mapTurned w' b := by
  obtain ⟨D, ho, hs, hat⟩ := h
  obtain ⟨w', hrun, h1, h2⟩ := ho.drop (int_keyed B.hk) B.ht (keyOf_int_mk B.hk ha) ty
  have hT := ho.tidy (int_keyed B.hk)
  refine ⟨w', hrun, ⟨_, h1, ?_, fun x => ?_⟩, h2⟩
  · have e := size_del (k := Lit.int q a) hT
    rw [(hat a).1, hs] at e
    by_cases m : a ∈ S
    · rw [List.length_erase_of_mem m]; simp [m] at e; omega
    · rw [List.erase_of_not_mem m]; simp [m] at e; omega
  · by_cases e : x = a
    · subst e
      have : x ∉ S.erase x := fun h => by simpa using ((List.Nodup.mem_erase_iff hd).1 h).1
      exact ⟨by rw [has_del_same]; simp [this], by rw [atKey_del_same]; simp [this]⟩
    · have ne : (Lit.int q x) ≠ Lit.int q a := fun e' => by injection e' with _ e'; exact e e'
      have : x ∈ S.erase a ↔ x ∈ S := List.mem_erase_of_ne e
      exact ⟨by rw [has_del_other ne, (hat x).1]; simp [this], by rw [atKey_del_other ne, (hat x).2]; simp [this]⟩
end

section
variable {P : Program} {t kt et : TypeId} {q : IntKind} (w : World) {ops : Array Oper} {rest : List Oper} {o : Oper} {a : Act} {Q : Exit → Act → World → Prop}

theorem wp_put (hg : o.guard = none) (m x v : Operand) (t : TypeId) (hop : o.op = Op.mapUpdate t m x v ∨ o.op = Op.insert t m x v) (B : BMap P t kt et q) (b n : Nat) (S : List Int)
    (hm : a.eval m = .map (some b)) (h : BM P kt et q w b n S) (hn : n < maxLen) (k : Int) (hx : a.eval x = .int q k) (hv : a.eval v = .bool true) (hk : (Lit.int q k).wf = true) (hS : k ∉ S)
    (hK : ∀ w', BM P kt et q w' b (n + 1) (k :: S) → w.grownBy w' (some b) → wpList P ops Q rest (a.put o.dst undef) w') : wpList P ops Q (o :: rest) a w := by
  refine wpList_plain hg fun K' hK' => ?_
  obtain ⟨w', hrun, r1, r2⟩ := h.put B hn hk hS
  unfold Oper.wp
  rcases hop with hop | hop
  · simp [execOp, hop, hm, hx, hv, hrun, Result.andThen]
    exact hK' _ _ (hK w' r1 r2.grown)
  · simp [execOp, hop, hm, hx, hv, hrun, Result.andThen]
    exact hK' _ _ (hK w' r1 r2.grown)

theorem wp_make (hg : o.guard = none) (t : TypeId) (hop : o.op = Op.makeMap t none)
    (hK : ∀ b w', b = w.heap.size → w'.heap[b]? = some (.map #[] 0) → (∀ (P : Program) (kt et : TypeId) (q : IntKind), BM P kt et q w' b 0 []) → Below w.heap.size w w' → wpList P ops Q rest (a.put o.dst (.map (some b))) w') : wpList P ops Q (o :: rest) a w := by
  refine wpList_plain hg fun K' hK' => ?_
  unfold Oper.wp
  simp [execOp, hop, run_makeMap, Result.andThen]
  exact hK' _ _ (hK _ _ rfl (MapKept.heap_alloc w _).1 (fun P kt et q => BM.made w) ((Below.refl _ _).alloc (Nat.le_refl _) _))

theorem wp_len (hg : o.guard = none) (m : Operand) (t : TypeId) (hop : o.op = Op.call { callee := Callee.builtin Builtin.len, args := #[m], argTypes := #[t] })
    (B : BMap P t kt et q) (b n : Nat) (S : List Int) (hm : a.eval m = .map (some b)) (h : BM P kt et q w b n S)
    (hK : wpList P ops Q rest (a.put o.dst (.int .i64 S.length)) w) : wpList P ops Q (o :: rest) a w := by
  obtain ⟨D, ho, hs, _⟩ := h
  refine wpList_len_own w hg m t hop kt et B.ht _ b n D hm ho ?_
  rw [hs]; exact hK
end
end Go.Proofs.Ytaapbnhggfmlpaa.M
