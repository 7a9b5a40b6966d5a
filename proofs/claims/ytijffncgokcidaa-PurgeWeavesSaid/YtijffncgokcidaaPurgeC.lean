/- Scripts: what stays of one. -/
import Derived.Test.YtijffncgokcidaaPurgeB
namespace Go.Proofs.Ytijffncgokcidaa
set_option linter.unusedVariables false
set_option linter.unusedSimpArgs false
open Go.RowKit

theorem elem_cv : ∃ i, Elem Try.prog 25 52 i (.agg #[.int .i64 0, .int .i64 0, .int .i64 0, .int .u64 0, .int .u64 0, .int .u64 0, .int .i64 0]) 7 56 := Elem.of Try.underlying25 (by kernel_rfl) rfl (by decide)
theorem elem_en : ∃ i, Elem Try.prog 27 42 i (.agg #[.int .i64 0, .int .i64 0]) 2 16 := Elem.of Try.underlying27 (by kernel_rfl) rfl (by decide)
def cf0 : Cf := ⟨0, 0, 0, 0, 0, 0, 0, 0, 0, 0, 0, 0, 0, 0⟩
def nil8 : List Value := [.slice none 0 0, .slice none 0 0, .slice none 0 0, .slice none 0 0, .slice none 0 0, .slice none 0 0, .slice none 0 0, .slice none 0 0]
/-- Eight slices that read as the programs ps; none lies in a block of S. -/
structure PIn (S : Nat → Prop) (w : World) (us : List Value) (ps : List (List CV)) : Prop where
  u8 : us.length = 8
  p8 : ps.length = 8
  at_ : ∀ (j : Nat) (l : List CV), ps[j]? = some l → ∃ (A : Option Addr) (n c : Nat), us[j]? = some (Value.slice A n c) ∧ Sl cvc w A n c l ∧ ∀ ad, A = some ad → l ≠ [] → ¬ S ad.block
theorem PIn.keeps {S : Nat → Prop} {w w' : World} {us : List Value} {ps : List (List CV)} (h : PIn S w us ps) (hk : Keeps S w w') : PIn S w' us ps :=
  ⟨h.u8, h.p8, fun j l hl => by
    obtain ⟨A, n, c, h1, h2, h3⟩ := h.at_ j l hl
    by_cases he : l = []
    · subst he
      exact ⟨A, n, c, h1, ⟨h2.len, h2.cap, Rd.nil _ _, h2.nil_⟩, h3⟩
    · exact ⟨A, n, c, h1, hk.sl h2 (fun ad e => h3 ad e he), h3⟩⟩
/-- What was there lies in none of the blocks to come. -/
theorem PIn.old {S : Nat → Prop} {w : World} {us : List Value} {ps : List (List CV)} (h : PIn S w us ps) : PIn (fun b => w.heap.size ≤ b) w us ps :=
  ⟨h.u8, h.p8, fun j l hl => by
    obtain ⟨A, n, c, h1, h2, h3⟩ := h.at_ j l hl
    refine ⟨A, n, c, h1, h2, fun ad e hne q => ?_⟩
    have := h2.rd.lt (by
      intro q
      have := congrArg List.length q
      rw [flat_len cvc_len] at this
      simp at this
      exact hne (List.eq_nil_of_length_eq_zero (by omega))) ad e
    omega⟩
theorem PIn.below {S : Nat → Prop} {w w' : World} {us : List Value} {ps : List (List CV)} (h : PIn S w us ps) (hb : Below w.heap.size w w') : PIn S w' us ps := h.keeps (Keeps.of_below hb)
theorem PIn.weak {S S' : Nat → Prop} {w : World} {us : List Value} {ps : List (List CV)} (h : PIn S w us ps) (hS : ∀ b, S' b → S b) : PIn S' w us ps :=
  ⟨h.u8, h.p8, fun j l hl => by
    obtain ⟨A, n, c, h1, h2, h3⟩ := h.at_ j l hl
    exact ⟨A, n, c, h1, h2, fun ad e hne q => h3 ad e hne (hS _ q)⟩⟩
/-- Of the first k programs those that are wanted. -/
def psK (st : Int → Bool) (ps : List (List CV)) (k : Nat) : List (List CV) := (List.range 8).map fun (j : Nat) => if j < k ∧ st (j : Int) = true then ps.getD j [] else []
theorem psK_get (st : Int → Bool) (ps : List (List CV)) (k : Nat) {j : Nat} (hj : j < 8) : (psK st ps k)[j]? = some (if j < k ∧ st (j : Int) = true then ps.getD j [] else []) := by
  unfold psK
  rw [List.getElem?_map, List.getElem?_range hj]
  rfl
theorem psK_len (st : Int → Bool) (ps : List (List CV)) (k : Nat) : (psK st ps k).length = 8 := by simp [psK]
theorem psK_no (st : Int → Bool) (ps : List (List CV)) (k : Nat) (h : st (k : Int) = false) : psK st ps (k + 1) = psK st ps k := by
  unfold psK
  congr 1
  funext j
  by_cases hj : j = k
  · subst hj
    simp [h]
  · have : j < k + 1 ↔ j < k := by omega
    simp [this]
theorem PIn.nil (S : Nat → Prop) (w : World) (st : Int → Bool) (ps : List (List CV)) : PIn S w nil8 (psK st ps 0) :=
  ⟨rfl, psK_len _ _ _, fun j l hl => by
    have hj : j < 8 := by have := (List.getElem?_eq_some_iff.1 hl).1; rwa [psK_len] at this
    rw [psK_get _ _ _ hj] at hl
    simp at hl
    subst hl
    refine ⟨none, 0, 0, ?_, ⟨rfl, Nat.le_refl _, Rd.nil _ _, fun _ => ⟨rfl, rfl⟩⟩, fun ad e _ => by cases e⟩
    match j, hj with
    | 0, _ => rfl
    | 1, _ => rfl
    | 2, _ => rfl
    | 3, _ => rfl
    | 4, _ => rfl
    | 5, _ => rfl
    | 6, _ => rfl
    | 7, _ => rfl⟩
theorem PIn.put {S : Nat → Prop} {w : World} {us : List Value} {st : Int → Bool} {ps : List (List CV)} {k : Nat} (h : PIn S w us (psK st ps k)) (hk : k < 8) (hst : st (k : Int) = true) {A : Option Addr} {n c : Nat} (hs : Sl cvc w A n c (ps.getD k [])) (hA : ∀ ad, A = some ad → ps.getD k [] ≠ [] → ¬ S ad.block) : PIn S w (us.set k (Value.slice A n c)) (psK st ps (k + 1)) :=
  ⟨by rw [List.length_set]; exact h.u8, psK_len _ _ _, fun j l hl => by
    have hj : j < 8 := by have := (List.getElem?_eq_some_iff.1 hl).1; rwa [psK_len] at this
    rw [psK_get _ _ _ hj] at hl
    by_cases hjk : j = k
    · subst hjk
      rw [if_pos ⟨by omega, hst⟩] at hl
      cases hl
      exact ⟨A, n, c, by rw [List.getElem?_set_self (by rw [h.u8]; exact hj)], hs, fun ad e hne => hA ad e hne⟩
    · have : (psK st ps k)[j]? = some l := by
        rw [psK_get _ _ _ hj, ← hl]
        have : j < k + 1 ↔ j < k := by omega
        simp [this]
      obtain ⟨A', n', c', h1, h2, h3⟩ := h.at_ j l this
      exact ⟨A', n', c', by rw [List.getElem?_set_ne (fun e => hjk e.symm)]; exact h1, h2, h3⟩⟩
theorem vals8 {us : List Value} (h : us.length = 8) : ∃ a0 a1 a2 a3 a4 a5 a6 a7 : Value, us = [a0, a1, a2, a3, a4, a5, a6, a7] := by
  match us, h with
  | [a0, a1, a2, a3, a4, a5, a6, a7], _ => exact ⟨a0, a1, a2, a3, a4, a5, a6, a7, rfl⟩
set_option maxHeartbeats 4000000 in
set_option maxRecDepth 100000 in
theorem idx_us {us : List Value} (h : us.length = 8) {k : Nat} {v : Value} (hv : us[k]? = some v) (w : World) : (Instr.index 26 (.agg us.toArray) (.int .i64 (k : Int))).run Try.prog w = .ok v w := by
  obtain ⟨a0, a1, a2, a3, a4, a5, a6, a7, rfl⟩ := vals8 h
  have hk : k < 8 := (List.getElem?_eq_some_iff.1 hv).1
  match k, hk with
  | 0, _ => cases hv; simp [Instr.index, go_sem]
  | 1, _ => cases hv; simp [Instr.index, go_sem]
  | 2, _ => cases hv; simp [Instr.index, go_sem]
  | 3, _ => cases hv; simp [Instr.index, go_sem]
  | 4, _ => cases hv; simp [Instr.index, go_sem]
  | 5, _ => cases hv; simp [Instr.index, go_sem]
  | 6, _ => cases hv; simp [Instr.index, go_sem]
  | 7, _ => cases hv; simp [Instr.index, go_sem]
theorem cvc_one (l : List CV) : ∀ u ∈ l.flatMap cvc, u.oneCell' = true := by
  intro u hu
  obtain ⟨x, _, hx⟩ := List.mem_flatMap.1 hu
  unfold cvc at hx
  simp only [List.mem_cons, List.not_mem_nil, or_false] at hx
  rcases hx with rfl | rfl | rfl | rfl | rfl | rfl | rfl <;> rfl
theorem Keeps.of_grown {w w' : World} {row : Option Nat} (hg : w.grownBy w' row) : Keeps (fun b => row = some b) w w' := (Keeps.refl _ w).grown hg fun k hk _ => hk
theorem own_ltb {w : World} {base : Nat} {e : TypeId} {size n : Nat} {v : Value} {xs : List Value} (h : w.ownsRow base e size v n xs) : ∀ k, v.ownBlock = some k → k < w.heap.size := by
  intro k hk
  rcases h.2 with ⟨rfl, _⟩ | ⟨g, cap, cur, rfl, _, hh, _⟩
  · simp [Value.ownBlock] at hk
  · have : g = k := by simpa [Value.ownBlock] using hk
    subst this
    exact Blk.lt hh
/-- The slices' blocks are there. -/
def PLt (w : World) (us : List Value) : Prop := ∀ (j : Nat) (A : Option Addr) (n c : Nat), us[j]? = some (Value.slice A n c) → ∀ ad, A = some ad → ad.block < w.heap.size
theorem PLt.mono {w w' : World} {us : List Value} (h : PLt w us) (hz : w.heap.size ≤ w'.heap.size) : PLt w' us := fun j A n c hj ad e => Nat.lt_of_lt_of_le (h j A n c hj ad e) hz
theorem PLt.nil (w : World) : PLt w nil8 := fun j A n c hj ad e => by
  unfold nil8 at hj
  match j, hj with
  | 0, hj => cases hj; cases e
  | 1, hj => cases hj; cases e
  | 2, hj => cases hj; cases e
  | 3, hj => cases hj; cases e
  | 4, hj => cases hj; cases e
  | 5, hj => cases hj; cases e
  | 6, hj => cases hj; cases e
  | 7, hj => cases hj; cases e
theorem PLt.put {w : World} {us : List Value} (h : PLt w us) (k : Nat) {A : Option Addr} {n c : Nat} (hA : ∀ ad, A = some ad → ad.block < w.heap.size) : PLt w (us.set k (Value.slice A n c)) := fun j A' n' c' hj ad e => by
  rw [List.getElem?_set] at hj
  split at hj
  · split at hj
    · cases hj
      exact hA ad e
    · cases hj
  · exact h j A' n' c' hj ad e
theorem PIn.more {S : Nat → Prop} {w : World} {us : List Value} {ps : List (List CV)} (h : PIn S w us ps) (hl : PLt w us) : PIn (fun b => S b ∨ w.heap.size ≤ b) w us ps :=
  ⟨h.u8, h.p8, fun j l hj => by
    obtain ⟨A, n, c, h1, h2, h3⟩ := h.at_ j l hj
    refine ⟨A, n, c, h1, h2, fun ad e hne q => ?_⟩
    rcases q with q | q
    · exact h3 ad e hne q
    · have := hl j A n c h1 ad e
      omega⟩
theorem keeps_row (w : World) (g : Nat) (cs : Array Value) : Keeps (fun b => b = g) w (w.setRow g cs) := (Keeps.of_grown (grown_setRow w g cs)).mono fun b e _ => (by injection e with e; exact e.symm)
theorem Blk.row {w : World} {g : Nat} {t : TypeId} {cs : Array Value} (h : Blk w g t cs) (cs' : Array Value) : Blk (w.setRow g cs') g t cs' := setRow_heap w g _ _ t _ h
def sB (p q n b : Nat) : Prop := b = p ∨ b = q ∨ b < n
theorem scc_one {S : Nat → Prop} {w : World} {c : Cf} {us : List Value} {ps : List (List CV)} (h : PIn S w us ps) (A : Option Addr) (m d : Nat) : (scc c us (.slice A m d)).toArray.all (·.oneCell') = true := by
  rw [Array.all_eq_true_iff_forall_mem]
  intro v hv
  have hv : v ∈ scc c us (.slice A m d) := by simpa using hv
  unfold scc at hv
  rcases List.mem_append.1 hv with hv | hv
  · unfold cfc at hv
    simp only [List.mem_cons, List.not_mem_nil, or_false] at hv
    rcases hv with rfl | rfl | rfl | rfl | rfl | rfl | rfl | rfl | rfl | rfl | rfl | rfl | rfl | rfl <;> rfl
  · rcases List.mem_append.1 hv with hv | hv
    · obtain ⟨j, hj, rfl⟩ := List.getElem_of_mem hv
      have hj8 : j < 8 := by rw [← h.u8]; exact hj
      obtain ⟨A', n', c', h1, _, _⟩ := h.at_ j _ (List.getElem?_eq_getElem (by rw [h.p8]; exact hj8))
      rw [List.getElem?_eq_getElem hj] at h1
      injection h1 with h1
      rw [h1]
      rfl
    · simp at hv
      rw [hv]
      rfl
theorem own_fl {w : World} {base : Nat} {e : TypeId} {size n c : Nat} {A : Option Addr} {xs : List Value} (h : w.ownsRow base e size (.slice A n c) n xs) {g : Nat} {t : TypeId} {cs : Array Value} (hg : Blk w g t cs) (hne : e ≠ t) : ∀ ad, A = some ad → ad.block ≠ g := by
  intro ad ha he
  have h1 := own_ne_blk h hg hne
  obtain ⟨h2, _, _⟩ := own_block h ad ha
  rw [h2, he] at h1
  exact h1 rfl
set_option maxHeartbeats 4000000 in
set_option maxRecDepth 100000 in
theorem keep_to {w : World} {c : Cf} {us : List Value} {ps : List (List CV)} {EA : Option Addr} {en ec : Nat} {es : List En} {q1 q2 : Nat} {st : Int → Bool} (hP : PIn (fun _ => False) w us ps) (hE : Sl enc_ w EA en ec es) (hen : en ≤ 1000000) (hre : ∀ l, l ∈ ps → l.length * 56 ≤ 140737488351232)
    (hst : ∀ (W : World) (t : Int), Below w.heap.size w W → Calls Try.prog 18 #[.int .i64 t, .pointer (some ⟨q1, 0, none⟩), .pointer (some ⟨q2, 0, none⟩)] W fun e w' => e = .returned (.bool (st t)) ∧ Below W.heap.size W w') :
    Calls Try.prog 17 #[.agg (scc c us (.slice EA en ec)).toArray, .func (.func 18) #[] #[.pointer (some ⟨q1, 0, none⟩), .pointer (some ⟨q2, 0, none⟩)]] w fun e w' => ∃ us' A m d, e = .returned (.agg (scc c us' (.slice A m d)).toArray) ∧ PIn (fun b => b < w.heap.size) w' us' (psK st ps 8) ∧ Sl enc_ w' A m d (es.filter fun e => st e.th) ∧ (∀ ad, A = some ad → w.heap.size ≤ ad.block) ∧ Below w.heap.size w w' := by
  obtain ⟨i0, E7⟩ := elem_cv
  obtain ⟨i1, E2⟩ := elem_en
  have h8 := hP.u8
  have hlen := hE.len
  go_enter Try.func17, Try.ntmps17
  go_upto_region 1 with (fail)
  obtain ⟨W0, hW0, B0, B1, kb, hz0⟩ : ∃ W0, (w.alloc (.cells (scc c us (.slice EA en ec)).toArray 29)).alloc (.cells #[.int .i64 0, .int .i64 0, .int .i64 0, .int .i64 0, .int .i64 0, .int .i64 0, .int .i64 0, .int .i64 0, .int .i64 0, .int .i64 0, .int .i64 0, .int .i64 0, .int .i64 0, .int .i64 0, .slice none 0 0, .slice none 0 0, .slice none 0 0, .slice none 0 0, .slice none 0 0, .slice none 0 0, .slice none 0 0, .slice none 0 0, .slice none 0 0] 29) = W0 ∧ Blk W0 w.heap.size 29 (scc c us (.slice EA en ec)).toArray ∧ Blk W0 (w.heap.size + 1) 29 (scc cf0 nil8 (.slice none 0 0)).toArray ∧ Below w.heap.size w W0 ∧ W0.heap.size = w.heap.size + 1 + 1 := ⟨_, rfl, (Blk.new _ _ _).alloc _, by have := Blk.new (w.alloc (.cells (scc c us (.slice EA en ec)).toArray 29)) 29 (scc cf0 nil8 (.slice none 0 0)).toArray; rwa [World.size_alloc] at this, bnew (bnew (brefl w) _) _, by simp⟩
  rw [hW0]
  clear hW0
  have r0 : W0.rangeAt w.heap.size 0 [.int .i64 c.lv, .int .i64 c.th, .int .i64 c.o0, .int .i64 c.o1, .int .i64 c.o2, .int .i64 c.o3, .int .i64 c.o4, .int .i64 c.o5, .int .i64 c.o6, .int .i64 c.o7, .int .i64 c.sl, .int .i64 c.li, .int .i64 c.ge, .int .i64 c.qu] := range_blk B0 0 (scc_conf c us _)
  have HZ0 := Lib.hid hz0
  clear hz0
  go_upto_region 2 with (first | (refine wpList_load_mid (op := ⟨some 11, _, _, _, _, _⟩) rfl 24 (.tmp 10) rfl w.heap.size 0 rfl [.int .i64 c.lv, .int .i64 c.th, .int .i64 c.o0, .int .i64 c.o1, .int .i64 c.o2, .int .i64 c.o3, .int .i64 c.o4, .int .i64 c.o5, .int .i64 c.o6, .int .i64 c.o7, .int .i64 c.sl, .int .i64 c.li, .int .i64 c.ge, .int .i64 c.qu] _ r0 Try.underlying24 rfl (by kernel_rfl) ?_) | (refine wpList_store_row (o := ⟨none, .store 29 (.tmp 5) (.tmp 12), _, _, _, _⟩) rfl 29 (.tmp 5) (.tmp 12) rfl W0.heap.size _ rfl rfl 29 _ (Blk.new W0 _ _) (by kernel_rfl) (by simp) (by simp [Value.oneCell']) ?_))
  obtain ⟨W1, hW1, C0, C1, C2, kb1⟩ : ∃ W1, (W0.alloc (.cells #[.int .i64 0, .int .i64 0, .int .i64 0, .int .i64 0, .int .i64 0, .int .i64 0, .int .i64 0, .int .i64 0, .int .i64 0, .int .i64 0, .int .i64 0, .int .i64 0, .int .i64 0, .int .i64 0, .slice none 0 0, .slice none 0 0, .slice none 0 0, .slice none 0 0, .slice none 0 0, .slice none 0 0, .slice none 0 0, .slice none 0 0, .slice none 0 0] 29)).setRow W0.heap.size #[.int .i64 c.lv, .int .i64 c.th, .int .i64 c.o0, .int .i64 c.o1, .int .i64 c.o2, .int .i64 c.o3, .int .i64 c.o4, .int .i64 c.o5, .int .i64 c.o6, .int .i64 c.o7, .int .i64 c.sl, .int .i64 c.li, .int .i64 c.ge, .int .i64 c.qu, .slice none 0 0, .slice none 0 0, .slice none 0 0, .slice none 0 0, .slice none 0 0, .slice none 0 0, .slice none 0 0, .slice none 0 0, .slice none 0 0] = W1 ∧ Blk W1 w.heap.size 29 (scc c us (.slice EA en ec)).toArray ∧ Blk W1 (w.heap.size + 1) 29 (scc cf0 nil8 (.slice none 0 0)).toArray ∧ Blk W1 (w.heap.size + 1 + 1) 29 (scc c nil8 (.slice none 0 0)).toArray ∧ Below w.heap.size w W1 := by
    have hz := HZ0.out
    have kr := keeps_row (W0.alloc (.cells #[.int .i64 0, .int .i64 0, .int .i64 0, .int .i64 0, .int .i64 0, .int .i64 0, .int .i64 0, .int .i64 0, .int .i64 0, .int .i64 0, .int .i64 0, .int .i64 0, .int .i64 0, .int .i64 0, .slice none 0 0, .slice none 0 0, .slice none 0 0, .slice none 0 0, .slice none 0 0, .slice none 0 0, .slice none 0 0, .slice none 0 0, .slice none 0 0] 29)) W0.heap.size #[.int .i64 c.lv, .int .i64 c.th, .int .i64 c.o0, .int .i64 c.o1, .int .i64 c.o2, .int .i64 c.o3, .int .i64 c.o4, .int .i64 c.o5, .int .i64 c.o6, .int .i64 c.o7, .int .i64 c.sl, .int .i64 c.li, .int .i64 c.ge, .int .i64 c.qu, .slice none 0 0, .slice none 0 0, .slice none 0 0, .slice none 0 0, .slice none 0 0, .slice none 0 0, .slice none 0 0, .slice none 0 0, .slice none 0 0]
    have b0 := B0.lt
    have b1 := B1.lt
    refine ⟨_, rfl, kr.blk (B0.alloc _) (by omega), kr.blk (B1.alloc _) (by omega), ?_, kr.below (bnew kb _) (by simp; omega) (fun x hx _ => by omega)⟩
    have h2 := (Blk.new W0 29 #[.int .i64 0, .int .i64 0, .int .i64 0, .int .i64 0, .int .i64 0, .int .i64 0, .int .i64 0, .int .i64 0, .int .i64 0, .int .i64 0, .int .i64 0, .int .i64 0, .int .i64 0, .int .i64 0, .slice none 0 0, .slice none 0 0, .slice none 0 0, .slice none 0 0, .slice none 0 0, .slice none 0 0, .slice none 0 0, .slice none 0 0, .slice none 0 0]).row #[.int .i64 c.lv, .int .i64 c.th, .int .i64 c.o0, .int .i64 c.o1, .int .i64 c.o2, .int .i64 c.o3, .int .i64 c.o4, .int .i64 c.o5, .int .i64 c.o6, .int .i64 c.o7, .int .i64 c.sl, .int .i64 c.li, .int .i64 c.ge, .int .i64 c.qu, .slice none 0 0, .slice none 0 0, .slice none 0 0, .slice none 0 0, .slice none 0 0, .slice none 0 0, .slice none 0 0, .slice none 0 0, .slice none 0 0]
    rw [hz] at h2 ⊢
    exact h2
  rw [hW1, HZ0.out]
  clear HZ0
  have r1 : W1.rangeAt w.heap.size 14 us := range_blk C0 14 scc_ps
  have hi8 : (Try.prog.info? 26).map (·.size) = some us.length := by rw [h8]; kernel_rfl
  clear hW1 B0 B1 kb r0
  go_upto_region 3 with (refine wpList_load_mid (op := ⟨some 14, _, _, _, _, _⟩) rfl 26 (.tmp 13) rfl w.heap.size 14 rfl us _ r1 Try.underlying26 rfl hi8 ?_)
  clear r1 hi8
  generalize Value.agg #[.int .i64 c.lv, .int .i64 c.th, .int .i64 c.o0, .int .i64 c.o1, .int .i64 c.o2, .int .i64 c.o3, .int .i64 c.o4, .int .i64 c.o5, .int .i64 c.o6, .int .i64 c.o7, .int .i64 c.sl, .int .i64 c.li, .int .i64 c.ge, .int .i64 c.qu] = V11
  generalize Value.agg #[.int .i64 c.lv, .int .i64 c.th, .int .i64 c.o0, .int .i64 c.o1, .int .i64 c.o2, .int .i64 c.o3, .int .i64 c.o4, .int .i64 c.o5, .int .i64 c.o6, .int .i64 c.o7, .int .i64 c.sl, .int .i64 c.li, .int .i64 c.ge, .int .i64 c.qu, .slice none 0 0, .slice none 0 0, .slice none 0 0, .slice none 0 0, .slice none 0 0, .slice none 0 0, .slice none 0 0, .slice none 0 0, .slice none 0 0] = V12
  generalize hV0 : Value.agg (scc c us (.slice EA en ec)).toArray = V0
  clear hV0
  go_loopg [15] 8 (fun gk i wr => ∃ (k : Nat) (vs : List Value), k + gk = 8 ∧ i = .int .i64 k ∧ Blk wr w.heap.size 29 (scc c us (.slice EA en ec)).toArray ∧ Blk wr (w.heap.size + 1) 29 (scc cf0 nil8 (.slice none 0 0)).toArray ∧ Blk wr (w.heap.size + 1 + 1) 29 (scc c vs (.slice none 0 0)).toArray ∧ PIn (sB (w.heap.size + 1) (w.heap.size + 1 + 1) w.heap.size) wr vs (psK st ps k) ∧ PLt wr vs ∧ Below w.heap.size w wr)
  case atStart => exact ⟨0, nil8, by omega, rfl, C0, C1, C2, PIn.nil _ _ _ _, PLt.nil _, kb1⟩
  case round =>
    clear C0 C1 C2 kb1
    obtain ⟨k, vs, hk, rfl, C0, C1, C2, P2, L2, kb⟩ := hrel
    by_cases hlt : k < 8
    · obtain ⟨l, hl⟩ : ∃ l, ps[k]? = some l := ⟨ps[k]'(by have := hP.p8; omega), List.getElem?_eq_getElem (i := k) _⟩
      obtain ⟨A, n, c', hu, hs, _⟩ := hP.at_ k l hl
      have hix := idx_us h8 hu
      have b0 : (0 : Int) ≤ (k : Int) := by omega
      have b1 : (k : Int) < 8 := by omega
      have hcall := hst _ (k : Int) kb
      have hln := hs.len
      have hle := hre l (List.mem_of_getElem? hl)
      have HL : Hid (ps.getD k [] = l) := by rw [Hid, List.getD_eq_getElem?_getD, hl]; rfl
      rw [hln] at hle
      have HN := Lib.hid hln
      have HV8 := Lib.hid P2.u8
      clear hu hl hln
      cases hk0 : st (k : Int) with
      | false =>
        rw [hk0] at hcall
        have HK := Lib.hid hk0
        clear hk0
        go_wp2_with (go_at_call 18; refine hcall.mono ?_; rintro e w2 ⟨rfl, hb2⟩)
        go_roundg (gk - 1)
        case measure => omega
        case rel => exact ⟨k + 1, vs, by omega, by go_num, C0.below_ hb2, C1.below_ hb2, C2.below_ hb2, by rw [psK_no _ _ _ HK.out]; exact P2.below hb2, L2.mono hb2.size, bnext kb hb2⟩
      | true =>
        rw [hk0] at hcall
        have HK := Lib.hid hk0
        clear hk0
        go_upto_region 6 with (go_at_call 18; refine hcall.mono ?_; rintro e w2 ⟨rfl, hb2⟩)
        have C0 := C0.below_ hb2
        have C1 := C1.below_ hb2
        have C2 := C2.below_ hb2
        have kk := Keeps.of_below (S := sB (w.heap.size + 1) (w.heap.size + 1 + 1) w.heap.size) hb2
        have kb2 := bnext kb hb2
        have hz := hb2.size
        have z0 := C0.lt
        have z1 := C1.lt
        have z2 := C2.lt
        have hs2 := hs.below kb2
        have hvk : ∃ u, w2.cell? ⟨w.heap.size + 1 + 1, 14 + k, none⟩ = some u := ⟨_, (C2.cell _).trans (by rw [List.getElem?_toArray]; exact scc_get (List.getElem?_eq_getElem (by rw [HV8.out]; exact hlt)))⟩
        clear hcall hb2
        go_wp2_with (at_builtin; refine wpList_fresh (W0 := w) (ys := l.flatMap cvc) E7 rfl (.tmp 23) (.tmp 24) rfl (bnew kb2 _) rfl (own_empty kb2 rfl) rfl (by rw [flat_len cvc_len, HN.out]) (hs2.rd.alloc _) (cvc_one l) (by unfold maxLen; omega) (by omega) ?_; intro A8 c8 w8 own8 hb8 hg8; have D0 := (C0.alloc _).grown hg8 (by intro e; injection e with e; omega); have D1 := (C1.alloc _).grown hg8 (by intro e; injection e with e; omega); have D2 := (C2.alloc _).grown hg8 (by intro e; injection e with e; omega); have kk8 := (kk.alloc _).grown hg8 (fun k' e hk' => by cases e; omega); have f8 := D2.frozen (14 + k); obtain ⟨u8, v8⟩ : ∃ u, w8.cell? ⟨w.heap.size + 1 + 1, 14 + k, none⟩ = some u := ⟨_, (D2.cell _).trans (by rw [List.getElem?_toArray]; exact scc_get (List.getElem?_eq_getElem (by rw [HV8.out]; exact hlt)))⟩; clear C0 C1 C2 kk hvk hs2)
        go_roundg (gk - 1)
        case measure => omega
        case rel =>
          refine ⟨k + 1, vs.set k (.slice A8 n c8), by omega, by go_num, D0.far (p := ⟨w.heap.size + 1 + 1, 14 + k, none⟩) (by dsimp only; omega) _, D1.far (p := ⟨w.heap.size + 1 + 1, 14 + k, none⟩) (by dsimp only; omega) _, ?_, ?_, PLt.put ((L2.mono (Nat.le_trans hz (Nat.le_trans (by simp) hg8.size))).mono (by simp [World.setCell])) k (fun ad e => by have := (own_block own8 ad e).2.2; simpa [World.setCell] using this), bset hb8 (p := ⟨w.heap.size + 1 + 1, 14 + k, none⟩) (by dsimp only; omega) _⟩
          · rw [← scc_set (by rw [HV8.out]; exact hlt), ← List.setIfInBounds_toArray]
            exact D2.set_ _ _
          · refine PIn.put (P2.keeps (kk8.setCell (p := ⟨w.heap.size + 1 + 1, 14 + k, none⟩) (fun _ => .inr (.inl rfl)) _)) hlt HK.out ?_ ?_
            · rw [HL.out]
              exact (Sl.of_own cvc_len (by decide) own8).setCell (p := ⟨w.heap.size + 1 + 1, 14 + k, none⟩) (own_fl own8 D2 (by decide)) _
            · intro ad e _ q
              rcases q with q | q | q
              · exact own_fl own8 D1 (by decide) ad e q
              · exact own_fl own8 D2 (by decide) ad e q
              · have := (own_block own8 ad e).2.1
                omega
    · have hge : ¬ ((k : Int) < 8) := by omega
      obtain rfl : k = 8 := by omega
      have c22 : wr.cell? ⟨w.heap.size, 22, none⟩ = some (.slice EA en ec) := (C0.cell 22).trans (by rw [List.getElem?_toArray]; exact scc_last h8)
      have z0 := C0.lt
      have P2 := P2.more L2
      obtain ⟨B, hB⟩ : ∃ B, wr.heap.size = B := ⟨_, rfl⟩
      have hBw : w.heap.size + 1 + 1 < B := by have := C2.lt; omega
      have hBr : B ≤ wr.heap.size := by omega
      rw [hB] at P2
      clear hlt hk C0 hB L2
      go_upto_region 9 with (fail)
      clear c22 z0 hge
      generalize Value.agg us.toArray = V14
      go_wp2_with fail
      go_loopg [32] en (fun gk i wr => ∃ (k m : Nat) (A' : Option Addr) (c' : Nat), k + gk = en ∧ i = .int .i64 k ∧ Hid (m = ((es.take k).filter fun e => st e.th).length) ∧ wr.ownsRow B 42 2 (.slice A' m c') m (((es.take k).filter fun e => st e.th).flatMap enc_) ∧ Blk wr (w.heap.size + 1) 29 (scc cf0 nil8 (.slice none 0 0)).toArray ∧ Blk wr (w.heap.size + 1 + 1) 29 (scc c vs (.slice A' m c')).toArray ∧ PIn (fun b => sB (w.heap.size + 1) (w.heap.size + 1 + 1) w.heap.size b ∨ B ≤ b) wr vs (psK st ps 8) ∧ B ≤ wr.heap.size ∧ Below w.heap.size w wr)
      case atStart => exact ⟨0, 0, none, 0, by omega, rfl, rfl, World.ownsRow_nil _ _ _ _, C1, C2, P2, hBr, kb⟩
      case round =>
        clear C1 C2 P2 kb hBr
        obtain ⟨k, m, A', c', hk, rfl, hm, own, C1, C2, P2, hBr, kb⟩ := hrel
        by_cases hlt : k < en
        · obtain ⟨b, o', rfl, _, _⟩ := hE.base enc__len (by decide) (by omega)
          obtain ⟨e, he⟩ : ∃ e, es[k]? = some e := ⟨es[k]'(by omega), List.getElem?_eq_getElem (i := k) _⟩
          have hrg : wr.rangeAt b (o' + k * 2) [.int .i64 e.th, .int .i64 e.wh] := range_sl enc__len (hE.below kb) he
          have b0 : (0 : Int) ≤ (k : Int) := by omega
          have b1 : (k : Int) < (en : Int) := by omega
          have hmk : m ≤ k := by
            have h1 := hm.out
            have h2 := List.length_filter_le (fun e : En => st e.th) (es.take k)
            have h3 := List.length_take_le k es
            omega
          have HS : Hid ((es.take (k + 1)).filter (fun e => st e.th) = (es.take k).filter (fun e => st e.th) ++ (if st e.th = true then [e] else [])) := by
            rw [Hid, List.take_add_one, he, List.filter_append]
            congr 1
            by_cases h : st e.th = true <;> simp [h]
          clear he
          go_upto_region 11 with (refine wpList_load_mid (op := ⟨some 35, _, _, _, _, _⟩) rfl 42 (.tmp 34) rfl b (o' + k * 2) rfl [.int .i64 e.th, .int .i64 e.wh] _ hrg Try.underlying42 rfl (by kernel_rfl) ?_)
          obtain ⟨W1, hW1, hE1, own1, D1, D2, P3, hB1, kb1⟩ : ∃ W1, wr.alloc (.cells #[.int .i64 e.th, .int .i64 e.wh] 42) = W1 ∧ Blk W1 wr.heap.size 42 #[.int .i64 e.th, .int .i64 e.wh] ∧ W1.ownsRow B 42 2 (.slice A' m c') m (((es.take k).filter fun e => st e.th).flatMap enc_) ∧ Blk W1 (w.heap.size + 1) 29 (scc cf0 nil8 (.slice none 0 0)).toArray ∧ Blk W1 (w.heap.size + 1 + 1) 29 (scc c vs (.slice A' m c')).toArray ∧ PIn (fun b => sB (w.heap.size + 1) (w.heap.size + 1 + 1) w.heap.size b ∨ B ≤ b) W1 vs (psK st ps 8) ∧ B ≤ W1.heap.size ∧ Below w.heap.size w W1 := ⟨_, rfl, Blk.new _ _ _, own.alloc _, C1.alloc _, C2.alloc _, P2.below (bnew (brefl wr) _), by simp; omega, bnew kb _⟩
          rw [hW1]
          clear hW1 own C1 C2 P2 kb hrg hBr
          generalize wr.heap.size = x at *
          have d0 : W1.cell? ⟨x, 0, none⟩ = some (.int .i64 e.th) := hE1.cell 0
          have zx := hE1.lt
          have hcall := hst _ e.th kb1
          cases hk0 : st e.th with
          | false =>
            rw [hk0] at hcall
            have HF : Hid ((es.take (k + 1)).filter (fun e => st e.th) = (es.take k).filter (fun e => st e.th)) := by rw [Hid, HS.out, hk0]; simp
            clear hk0
            go_wp2_with (go_at_call 18; refine hcall.mono ?_; rintro e w2 ⟨rfl, hb2⟩)
            go_roundg (gk - 1)
            case measure => omega
            case rel => exact ⟨k + 1, m, A', c', by omega, by go_num, by rw [Hid, HF.out]; exact hm.out, by rw [HF.out]; exact own_below own1 hb2, D1.below_ hb2, D2.below_ hb2, P3.below hb2, Nat.le_trans hB1 hb2.size, bnext kb1 hb2⟩
          | true =>
            rw [hk0] at hcall
            have HF : Hid ((es.take (k + 1)).filter (fun e => st e.th) = (es.take k).filter (fun e => st e.th) ++ [e]) := by rw [Hid, HS.out, hk0]; simp
            clear hk0
            go_upto_region 12 with (go_at_call 18; refine hcall.mono ?_; rintro e w2 ⟨rfl, hb2⟩)
            have own2 := own_below own1 hb2
            have D1 := D1.below_ hb2
            have D2 := D2.below_ hb2
            have P3 := P3.below hb2
            have hE2 := hE1.below_ hb2
            have kb2 := bnext kb1 hb2
            have hB2 := Nat.le_trans hB1 hb2.size
            have HV8 := Lib.hid P3.u8
            have c22 : w2.cell? ⟨w.heap.size + 1 + 1, 22, none⟩ = some (.slice A' m c') := (D2.cell 22).trans (by rw [List.getElem?_toArray]; exact scc_last HV8.out)
            have z2 := D2.lt
            have z1 := D1.lt
            clear own1 hE1 hb2 hcall d0 zx
            go_wp2_with (first | (refine wpList_load_row (o := ⟨some 42, _, _, _, _, _⟩) rfl 42 (.tmp 9) rfl x rfl 42 _ _ _ hE2 Try.underlying42 rfl (by kernel_rfl) ?_) | (at_builtin; refine wpList_app (ys := [.int .i64 e.th, .int .i64 e.wh]) (m := 1) E2 rfl (.tmp 41) (.tmp 43) rfl B rfl (own2.alloc _) rfl rfl (Rd.new _ _ _ rfl) (by simp [Value.oneCell']) (by unfold maxLen; omega) (by omega) (by simp; omega) ?_; intro A8 c8 w8 own8 hg8 _; have G1 := (D1.alloc _).grown hg8 (fun q => own_ne_blk own2 D1 (by decide) q.symm); have G2 := (D2.alloc _).grown hg8 (fun q => own_ne_blk own2 D2 (by decide) q.symm); have P8 := P3.keeps (((Keeps.refl _ w2).alloc _).grown hg8 (fun k' q hk' => .inr (own_ge own2 k' q))); have hb8 := (bnew kb2 (.cells #[.int .i64 e.th, .int .i64 e.wh] 42)).grown hg8 (bnew kb2 _).size (fun k' q => Nat.le_trans (by omega) (own_ge own2 k' q)); have hB8 := Nat.le_trans hB2 (Nat.le_trans (by simp) hg8.size); have f8 := G2.frozen 22; have v8 : w8.cell? ⟨w.heap.size + 1 + 1, 22, none⟩ = some (.slice A' m c') := (G2.cell 22).trans (by rw [List.getElem?_toArray]; exact scc_last HV8.out); clear D1 D2 P3 c22))
            go_roundg (gk - 1)
            case measure => omega
            case rel =>
              refine ⟨k + 1, m + 1, A8, c8, by omega, by go_num, ?_, ?_, G1.far (p := ⟨w.heap.size + 1 + 1, 22, none⟩) (by dsimp only; omega) _, ?_, P8.keeps ((Keeps.refl _ w8).setCell (p := ⟨w.heap.size + 1 + 1, 22, none⟩) (fun _ => .inl (.inr (.inl rfl))) _), by simpa [World.setCell] using hB8, bset hb8 (p := ⟨w.heap.size + 1 + 1, 22, none⟩) (by dsimp only; omega) _⟩
              · rw [Hid, HF.out, hm.out]; simp
              · rw [HF.out, List.flatMap_append]
                exact ((Keeps.refl (fun b => b = w.heap.size + 1 + 1) w8).setCell (p := ⟨w.heap.size + 1 + 1, 22, none⟩) (fun _ => rfl) _).own own8 (fun k' q1 q2 => own_ne_blk own8 G2 (by decide) (by rw [q1, q2]))
              · rw [← scc_setl HV8.out, ← List.setIfInBounds_toArray]
                exact G2.set_ _ _
        · have hge : ¬ ((k : Int) < (en : Int)) := by omega
          have hke : es.take k = es := List.take_of_length_le (by omega)
          rw [hke] at hm own
          have hv8 := P2.u8
          have hinf := info_scc (c := c) (us := vs) (ev := .slice A' m c') hv8
          have hold : (scc cf0 nil8 (.slice none 0 0)).toArray.size = (scc c vs (.slice A' m c')).toArray.size := by rw [List.size_toArray, List.size_toArray, scc_len hv8, scc_len rfl]
          have hone := scc_one (c := c) P2 A' m c'
          have HM := hm
          clear hk hlt hke hm hv8
          go_wp2_with (first | (refine wpList_load_row (o := ⟨some 47, _, _, _, _, _⟩) rfl 29 (.tmp 5) rfl (w.heap.size + 1 + 1) rfl 29 _ _ _ C2 Try.underlying29 rfl hinf ?_) | (refine wpList_store_row (o := ⟨none, .store 29 (.tmp 4) (.tmp 47), _, _, _, _⟩) rfl 29 (.tmp 4) (.tmp 47) rfl (w.heap.size + 1) _ rfl rfl 29 _ C1 hinf hold hone ?_))
          have kr := keeps_row wr (w.heap.size + 1) (scc c vs (.slice A' m c')).toArray
          refine bodyPost_ret (v := .agg (scc c vs (.slice A' m c')).toArray) (results_cell_row rfl _ _ (w.heap.size + 1) 29 _ _ _ rfl (C1.row _) Try.underlying29 rfl hinf) rfl ⟨vs, A', m, c', rfl, (P2.keeps (kr.mono fun b h _ => .inl (.inl h))).weak (fun b h => .inl (.inr (.inr h))), ?_, fun ad e => Nat.le_trans (by omega) (own_block own ad e).2.1, kr.below kb kb.size (fun y hy _ => by omega)⟩
          have own' := kr.own own (fun k' q1 q2 => own_ne_blk own C1 (by decide) (by rw [q1, q2]))
          exact Sl.of_own enc__len (by decide) own'
end Go.Proofs.Ytijffncgokcidaa
