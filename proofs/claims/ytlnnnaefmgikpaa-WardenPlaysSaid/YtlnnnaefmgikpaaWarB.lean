/- A map from spots to numbers, as a function. -/
import Derived.Test.YtlnnnaefmgikpaaWarA
import Derived.Test.YtlnnnaefmgikpaaPlanR
import Derived.Maps.Own
import Derived.Maps.OwnSet
import Derived.Maps.Range
import Derived.WideKeyEntry
import Derived.DeepKeys4
namespace Go.Proofs.Ytlnnnaefmgikpaa
set_option linter.unusedVariables false
set_option linter.unusedSimpArgs false
open Go.RowKit

open Go.ChangeMaps (setBlock heap_setBlock_same heap_setBlock_other)
theorem laidW : laidOutB Try.prog = true := by kernel_rfl
theorem lawW : WideMaps.KeyLaw Try.prog 52 := deep_law_laid laidW (m := 3) (by omega) (of_decide_eq_true (by kernel_rfl)) (by kernel_rfl) (by rw [Try.underlying52])
theorem keyedW : Maps.Keyed Try.prog 52 := Maps.Keyed.of_law lawW
theorem zeroW (w : World) : (zeroValue 3).run Try.prog w = .ok (.int .i64 0) w := by kernel_rfl
/-- A number that an int holds. -/
def wfI (n : Int) : Prop := -9223372036854775808 ≤ n ∧ n ≤ 9223372036854775807
theorem wfI_lit {n : Int} (h : wfI n) : (Lit.int .i64 n).wf = true := by
  have h1 : IntKind.i64.min = -9223372036854775808 := by decide
  have h2 : IntKind.i64.max = 9223372036854775807 := by decide
  unfold wfI at h
  simp [Lit.wf, h1, h2]
  omega
/-- What a spot's key reads as. -/
def kl (a b : Int) : Lit := .string (keyBytes [.int .i64 a, .int .i64 b])
theorem keyW {a b : Int} (ha : wfI a) (hb : wfI b) : keyOf Try.prog 52 (.agg #[.int .i64 a, .int .i64 b]) = some (kl a b) := by
  obtain ⟨m, hm⟩ : ∃ m, Try.prog.types.size = m + 2 := ⟨Try.prog.types.size - 2, (Nat.sub_add_cancel (of_decide_eq_true (by kernel_rfl) : 2 ≤ Try.prog.types.size)).symm⟩
  have h1 : Try.prog.keyType 52 = true := by kernel_rfl
  have h2 : Value.formed Try.prog 52 (.agg #[.int .i64 a, .int .i64 b]) = true := by
    have hc : Try.prog.cellsOf 52 = 2 := by kernel_rfl
    simp [Value.formed, Try.underlying52, hc]
  have h3 : Try.prog.cellsOf 52 = 2 := by kernel_rfl
  have h4 : Try.prog.cellsOf 3 = 1 := by kernel_rfl
  have w1 := wfI_lit ha
  have w2 := wfI_lit hb
  unfold keyOf
  simp only [Try.underlying52, h1, h2, hm]
  simp [Program.keyLits, Try.underlying52, Try.underlying3, h3, h4, w1, w2, Value.cells, kl]
theorem kl_inj {a b a' b' : Int} (ha : wfI a) (hb : wfI b) (ha' : wfI a') (hb' : wfI b') (h : kl a b = kl a' b') : a = a' ∧ b = b' := by
  have h1 := keyW ha hb
  have h2 := keyW ha' hb'
  rw [h] at h1
  have := lawW.inj h1 h2
  simpa using this
theorem kl_key (a b : Int) : WideAt.IsKeyLit (kl a b) := trivial
/-- Block b is a map of at most N entries that reads as f; d: which spots it has. -/
def MapF (w : World) (b N : Nat) (f : Int → Int → Int) (d : Int → Int → Bool) : Prop := ∃ D : DataW Unit, w.ownsMap Try.prog 52 (plainElem (H := Unit) Try.prog 3) b N D ∧
  (∀ x y, wfI x → wfI y → D.atKey (kl x y) (.lit (.int .i64 0)) = .lit (.int .i64 (f x y))) ∧ (∀ x y, wfI x → wfI y → Maps.has D (kl x y) = d x y) ∧ ∀ k, Maps.has D k = true → ∃ x y, wfI x ∧ wfI y ∧ d x y = true ∧ k = kl x y
def upd {α : Type} (f : Int → Int → α) (a b : Int) (v : α) : Int → Int → α := fun x y => if x = a ∧ y = b then v else f x y
theorem upd_same {α : Type} (f : Int → Int → α) (a b : Int) (v : α) : upd f a b v a b = v := if_pos ⟨rfl, rfl⟩
theorem upd_other {α : Type} (f : Int → Int → α) {a b x y : Int} (v : α) (h : ¬ (x = a ∧ y = b)) : upd f a b v x y = f x y := if_neg h
theorem kl_ne {a b x y : Int} (ha : wfI a) (hb : wfI b) (hx : wfI x) (hy : wfI y) (h : ¬ (x = a ∧ y = b)) : kl x y ≠ kl a b := fun e => h (kl_inj hx hy ha hb e)
theorem MapF.blk {w w' : World} {b N : Nat} {f : Int → Int → Int} {d : Int → Int → Bool} (h : MapF w b N f d) (hb : w'.heap[b]? = w.heap[b]?) : MapF w' b N f d := by
  obtain ⟨D, ⟨es, clock, h1, h2⟩, h3⟩ := h
  exact ⟨D, ⟨es, clock, by rw [hb]; exact h1, h2⟩, h3⟩
theorem MapF.lt {w : World} {b N : Nat} {f : Int → Int → Int} {d : Int → Int → Bool} (h : MapF w b N f d) : b < w.heap.size := h.elim fun _ h => h.1.lt
theorem MapF.mono {w : World} {b N N' : Nat} {f : Int → Int → Int} {d : Int → Int → Bool} (h : MapF w b N f d) (hN : N ≤ N') : MapF w b N' f d := by
  obtain ⟨D, h1, h2⟩ := h
  exact ⟨D, h1.mono hN, h2⟩
theorem MapF.made (w : World) : MapF (w.alloc (.map #[] 0)) w.heap.size 0 (fun _ _ => 0) (fun _ _ => false) := ⟨_, World.ownsMap_made _ _ _ _, fun _ _ _ _ => rfl, fun _ _ _ _ => rfl, fun _ h => by cases h⟩
theorem MapF.keeps {S : Nat → Prop} {w w' : World} {b N : Nat} {f : Int → Int → Int} {d : Int → Int → Bool} (h : MapF w b N f d) (hk : Keeps S w w') (hb : ¬ S b) : MapF w' b N f d := h.blk (hk.block b h.lt hb)
theorem MapF.below {w w' : World} {b N : Nat} {f : Int → Int → Int} {d : Int → Int → Bool} (h : MapF w b N f d) (hk : Below w.heap.size w w') : MapF w' b N f d := h.blk (hk.block b h.lt)
/-- What is read. -/
theorem MapF.look {w : World} {b N : Nat} {f : Int → Int → Int} {d : Int → Int → Bool} (h : MapF w b N f d) {x y : Int} (hx : wfI x) (hy : wfI y) : (Instr.lookup 48 (.map (some b)) (.agg #[.int .i64 x, .int .i64 y]) false).run Try.prog w = .ok (.int .i64 (f x y)) w := by
  obtain ⟨D, h1, h2, _⟩ := h
  obtain ⟨c, hr, hc, _⟩ := h1.lookup_int keyedW Try.underlying48 Try.underlying3 (zeroW w) (keyW hx hy)
  have h3 := h2 x y hx hy
  rw [hc] at h3
  cases h3
  exact hr
theorem grown_keeps {w w' : World} {b : Nat} (h : w.grownBy w' (some b)) : Keeps (fun q => q = b) w w' := (Keeps.refl _ w).grown h (fun k e _ => by cases e; rfl)
/-- What is stored. -/
theorem MapF.store {w : World} {b N : Nat} {f : Int → Int → Int} {d : Int → Int → Bool} (h : MapF w b N f d) (hN : N < 1000000) {x y v : Int} (hx : wfI x) (hy : wfI y) (hv : wfI v) :
    ∃ w', (Instr.mapUpdate 48 (.map (some b)) (.agg #[.int .i64 x, .int .i64 y]) (.int .i64 v)).run Try.prog w = .ok () w' ∧ MapF w' b (N + 1) (upd f x y v) (upd d x y true) ∧ Keeps (fun q => q = b) w w' := by
  obtain ⟨D, h1, h2, h3, h4⟩ := h
  obtain ⟨w', hr, ho, hg⟩ := h1.update keyedW Try.underlying48 (by unfold maxLen; omega) (keyW hx hy) (plainElem_int Try.underlying3 (wfI_lit hv))
  refine ⟨w', hr, ⟨_, ho, fun x' y' hx' hy' => ?_, fun x' y' hx' hy' => ?_, fun k hk => ?_⟩, grown_keeps hg⟩
  · by_cases he : x' = x ∧ y' = y
    · obtain ⟨rfl, rfl⟩ := he
      rw [upd_same, Maps.atKey_put_same h1.isMap (kl_key _ _)]
    · rw [upd_other _ _ he, Maps.atKey_put_other (kl_ne hx hy hx' hy' he)]
      exact h2 x' y' hx' hy'
  · by_cases he : x' = x ∧ y' = y
    · obtain ⟨rfl, rfl⟩ := he
      rw [upd_same, Maps.has_put_same h1.isMap (kl_key _ _)]
    · rw [upd_other _ _ he, Maps.has_put_other (kl_ne hx hy hx' hy' he)]
      exact h3 x' y' hx' hy'
  · by_cases he : k = kl x y
    · exact ⟨x, y, hx, hy, upd_same _ _ _ _, he⟩
    · rw [Maps.has_put_other he] at hk
      obtain ⟨x', y', hx', hy', hd, rfl⟩ := h4 k hk
      exact ⟨x', y', hx', hy', by rw [upd_other _ _ (fun q => he (by rw [q.1, q.2]))]; exact hd, rfl⟩
/-- What is deleted. -/
theorem MapF.drop {w : World} {b N : Nat} {f : Int → Int → Int} {d : Int → Int → Bool} (h : MapF w b N f d) {x y : Int} (hx : wfI x) (hy : wfI y) :
    ∃ w', (∀ ty, (Builtin.delete_ #[48, 52] ty #[.map (some b), .agg #[.int .i64 x, .int .i64 y]]).run Try.prog w = .ok (.tuple #[]) w') ∧ MapF w' b N (upd f x y 0) (upd d x y false) ∧ Keeps (fun q => q = b) w w' := by
  obtain ⟨D, h1, h2, h3, h4⟩ := h
  obtain ⟨w', hr, ho, hg⟩ := h1.drop keyedW Try.underlying48 (keyW hx hy) 0
  refine ⟨w', fun ty => hr, ⟨_, ho, fun x' y' hx' hy' => ?_, fun x' y' hx' hy' => ?_, fun k hk => ?_⟩, grown_keeps hg.grown⟩
  · by_cases he : x' = x ∧ y' = y
    · obtain ⟨rfl, rfl⟩ := he
      rw [upd_same, Maps.atKey_del_same]
    · rw [upd_other _ _ he, Maps.atKey_del_other (kl_ne hx hy hx' hy' he)]
      exact h2 x' y' hx' hy'
  · by_cases he : x' = x ∧ y' = y
    · obtain ⟨rfl, rfl⟩ := he
      rw [upd_same, Maps.has_del_same]
    · rw [upd_other _ _ he, Maps.has_del_other (kl_ne hx hy hx' hy' he)]
      exact h3 x' y' hx' hy'
  · by_cases he : k = kl x y
    · rw [he, Maps.has_del_same] at hk
      cases hk
    · rw [Maps.has_del_other he] at hk
      obtain ⟨x', y', hx', hy', hd, rfl⟩ := h4 k hk
      exact ⟨x', y', hx', hy', by rw [upd_other _ _ (fun q => he (by rw [q.1, q.2]))]; exact hd, rfl⟩

section
open Go.WideElems (Fit set_self)
open Go.ChangeMaps
theorem entry_is_update {P : Program} {w : World} {t k e : TypeId} {R : Value → Option (DataW Unit × List MemPlace)} {b : Nat} {es : Array MapEntry} {clock : Nat} (K : WideMaps.KeyLaw P k) (ht : P.underlying t = some (.map k e)) {z : Value} (hz : ∀ u : World, (zeroValue e).run P u = .ok z u) (hb : w.heap[b]? = some (.map es clock)) (F : Go.WideElems.Fit P k R es clock)
    {key : Value} {kl : Lit} (hkey : keyOf P k key = some kl) :
    ∃ (v0 : Value) (st : Nat) (es1 : Array MapEntry) (clock1 : Nat), (Instr.mapEntry t (.map (some b)) key).run P w = .ok (.tuple #[v0, goInt st]) (setBlock w b (.map es1 clock1)) ∧
      (Instr.mapUpdate t (.map (some b)) key v0).run P w = .ok () (setBlock w b (.map es1 clock1)) ∧ (Instr.lookup t (.map (some b)) key false).run P w = .ok v0 w := by
  rcases K.find w hkey es.toList F.keys with ⟨h1, h2⟩ | ⟨j, e0, h1, h2, h3⟩
  · refine ⟨z, clock, es.push ⟨key, z, clock⟩, clock + 1, ?_, ?_, ?_⟩
    · simp [Instr.mapEntry, run_underlying ht, MapKept.run_getObj_map hb, K.check w false hkey, h1, hz, MapKept.run_setObj_map _ hb, Result.andThen, setBlock]
    · simp [Instr.mapUpdate, run_underlying ht, MapKept.run_getObj_map hb, K.check w false hkey, h1, MapKept.run_setObj_map _ hb, Result.andThen, setBlock]
    · simp [Instr.lookup, run_underlying ht, MapKept.run_getObj_map hb, K.check w _ hkey, h1, hz, Result.andThen]
  · have hj : es[j]? = some e0 := by simpa using h2
    have hsame : es.modify j (fun e => { e with key := key }) = es := by
      apply Array.ext'
      rw [Array.toList_modify, modify_eq_set _ _ _ _ h2]
      have : ({ e0 with key := key } : MapEntry) = e0 := by rw [← h3]
      rw [this]
      exact set_self _ _ _ h2
    have hsame2 : es.modify j (fun e => { e with key := key, val := e0.val }) = es := by
      apply Array.ext'
      rw [Array.toList_modify, modify_eq_set _ _ _ _ h2]
      have : ({ e0 with key := key, val := e0.val } : MapEntry) = e0 := by rw [← h3]
      rw [this]
      exact set_self _ _ _ h2
    refine ⟨e0.val, e0.born, es, clock, ?_, ?_, ?_⟩
    · simp [Instr.mapEntry, run_underlying ht, MapKept.run_getObj_map hb, K.check w false hkey, h1, hj, h3, K.stays w hkey, hsame, MapKept.run_setObj_map _ hb, Result.andThen, setBlock]
    · simp [Instr.mapUpdate, run_underlying ht, MapKept.run_getObj_map hb, K.check w false hkey, h1, hj, h3, K.stays w hkey, hsame2, MapKept.run_setObj_map _ hb, Result.andThen, setBlock]
    · simp [Instr.lookup, run_underlying ht, MapKept.run_getObj_map hb, K.check w _ hkey, h1, hj, Result.andThen]
end
/-- What is stored by way of an entry. -/
theorem MapF.entry {w : World} {b N : Nat} {f : Int → Int → Int} {d : Int → Int → Bool} (h : MapF w b N f d) (hN : N < 1000000) {x y : Int} (hx : wfI x) (hy : wfI y) (hfw : wfI (f x y)) :
    ∃ (st : Nat) (w1 : World), (Instr.mapEntry 48 (.map (some b)) (.agg #[.int .i64 x, .int .i64 y])).run Try.prog w = .ok (.tuple #[.int .i64 (f x y), goInt st]) w1 ∧ MapF w1 b (N + 1) (upd f x y (f x y)) (upd d x y true) ∧ Keeps (fun q => q = b) w w1 ∧
      ∀ (w2 : World) (v : Int), wfI v → w2.heap[b]? = w1.heap[b]? → ∃ w3, (Instr.entryStore 48 (.map (some b)) (goInt st) (.int .i64 v)).run Try.prog w2 = .ok () w3 ∧ MapF w3 b (N + 1) (upd f x y v) (upd d x y true) ∧ Keeps (fun q => q = b) w2 w3 := by
  have hl := h.look hx hy
  have h0 := h
  obtain ⟨D, ⟨es, clock, hb, F, _⟩, _⟩ := h
  obtain ⟨v0, st, es1, clock1, e1, e2, e3⟩ := entry_is_update lawW Try.underlying48 zeroW hb F (keyW hx hy)
  obtain ⟨v0', st', es1', clock1', e1', _, e4⟩ := Go.WideElems.entry_then_store lawW Try.underlying48 zeroW hb F (keyW hx hy)
  rw [hl] at e3
  cases e3
  rw [e1] at e1'
  have hw1 : (setBlock w b (.map es1 clock1)).heap[b]? = some (.map es1 clock1) := heap_setBlock_same hb _
  have hst : st' = st ∧ setBlock w b (.map es1' clock1') = setBlock w b (.map es1 clock1) := by
    injection e1' with q1 q2
    refine ⟨?_, q2.symm⟩
    simp [goInt] at q1
    omega
  have hm : Obj.map es1' clock1' = Obj.map es1 clock1 := by
    have := congrArg (fun W : World => W.heap[b]?) hst.2
    rw [hw1] at this
    have h2 : (setBlock w b (.map es1' clock1')).heap[b]? = some (.map es1' clock1') := heap_setBlock_same hb _
    simp only [h2] at this
    exact Option.some.inj this
  obtain ⟨wa, ra, Ma, Ka⟩ := h0.store hN hx hy hfw
  rw [e2] at ra
  injection ra with _ ra
  subst ra
  refine ⟨st, _, e1, Ma, Ka, fun w2 v hv hw2 => ?_⟩
  rw [hw1, ← hm] at hw2
  obtain ⟨es', clock', s1, s2⟩ := e4 w2 (.int .i64 v) hw2
  obtain ⟨wb, rb, Mb, Kb⟩ := h0.store hN hx hy hv
  rw [s2] at rb
  injection rb with _ rb
  subst rb
  rw [hst.1] at s1
  refine ⟨_, s1, Mb.blk ?_, ⟨rfl, rfl, rfl, by simp [setBlock], fun i _ hi => heap_setBlock_other hw2 _ hi⟩⟩
  rw [heap_setBlock_same hw2, heap_setBlock_same hb]
end Go.Proofs.Ytlnnnaefmgikpaa
