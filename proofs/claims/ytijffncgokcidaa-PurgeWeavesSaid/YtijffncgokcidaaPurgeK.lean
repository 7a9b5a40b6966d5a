/- Scripts, purged, and what goes: where it lies. -/
import Derived.Test.YtijffncgokcidaaPurgeJ
namespace Go.Proofs.Ytijffncgokcidaa
set_option linter.unusedVariables false
set_option linter.unusedSimpArgs false
open Go.RowKit

set_option maxHeartbeats 4000000 in
set_option maxRecDepth 100000 in
theorem to_fresh {w : World} {c : Cf} {us : List Value} {ps : List (List CV)} {EA : Option Addr} {en ec : Nat} {es : List En} (lv : Int) (hP : PIn (fun _ => False) w us ps) (hE : Sl enc_ w EA en ec es) (hen : en ≤ 1000000) (hre : ∀ l, l ∈ ps → l.length * 56 ≤ 140737488351232) :
    Calls Try.prog 9 #[.agg (scc c us (.slice EA en ec)).toArray, .int .i64 lv] w fun e w' => ∃ us' A m d, e = .returned (.agg (scc c us' (.slice A m d)).toArray) ∧ PIn (fun b => b < w.heap.size + 1 + 1 + 1) w' us' (psK (stTo c lv) ps 8) ∧ Sl enc_ w' A m d (es.filter fun e => stTo c lv e.th) ∧ (∀ ad, A = some ad → w.heap.size + 1 + 1 + 1 ≤ ad.block) ∧ Below w.heap.size w w' := by
  have h8 := hP.u8
  go_enter Try.func9, Try.ntmps9
  go_upto_region 1 with (fail)
  obtain ⟨W0, hW0, B0, B1, B2, kb, hz0⟩ : ∃ W0, ((w.alloc (.cells (scc c us (.slice EA en ec)).toArray 29)).alloc (.cells #[.int .i64 lv] 3)).alloc (.cells #[.int .i64 0, .int .i64 0, .int .i64 0, .int .i64 0, .int .i64 0, .int .i64 0, .int .i64 0, .int .i64 0, .int .i64 0, .int .i64 0, .int .i64 0, .int .i64 0, .int .i64 0, .int .i64 0, .slice none 0 0, .slice none 0 0, .slice none 0 0, .slice none 0 0, .slice none 0 0, .slice none 0 0, .slice none 0 0, .slice none 0 0, .slice none 0 0] 29) = W0 ∧ Blk W0 w.heap.size 29 (scc c us (.slice EA en ec)).toArray ∧ Blk W0 (w.heap.size + 1) 3 #[.int .i64 lv] ∧ Blk W0 (w.heap.size + 1 + 1) 29 (scc cf0 nil8 (.slice none 0 0)).toArray ∧ Below w.heap.size w W0 ∧ W0.heap.size = w.heap.size + 1 + 1 + 1 := ⟨_, rfl, ((Blk.new _ _ _).alloc _).alloc _, by have := (Blk.new (w.alloc (.cells (scc c us (.slice EA en ec)).toArray 29)) 3 #[.int .i64 lv]).alloc (.cells #[.int .i64 0, .int .i64 0, .int .i64 0, .int .i64 0, .int .i64 0, .int .i64 0, .int .i64 0, .int .i64 0, .int .i64 0, .int .i64 0, .int .i64 0, .int .i64 0, .int .i64 0, .int .i64 0, .slice none 0 0, .slice none 0 0, .slice none 0 0, .slice none 0 0, .slice none 0 0, .slice none 0 0, .slice none 0 0, .slice none 0 0, .slice none 0 0] 29); rwa [World.size_alloc] at this, by have := Blk.new ((w.alloc (.cells (scc c us (.slice EA en ec)).toArray 29)).alloc (.cells #[.int .i64 lv] 3)) 29 (scc cf0 nil8 (.slice none 0 0)).toArray; rw [World.size_alloc, World.size_alloc] at this; exact this, bnew (bnew (bnew (brefl w) _) _) _, by simp⟩
  rw [hW0]
  clear hW0
  have hinf := info_scc (c := c) (us := us) (ev := .slice EA en ec) h8
  have hk := keep_to (w := W0) (c := c) (us := us) (ps := ps) (EA := EA) (en := en) (ec := ec) (es := es) (q1 := w.heap.size) (q2 := w.heap.size + 1) (st := stTo c lv) (hP.below kb) (hE.below kb) hen hre (fun W t hW => to1_any h8 (B0.below_ hW) ((B1.below_ hW).cell 0) t)
  have HZ0 := Lib.hid hz0
  clear hz0
  go_wp2_with (first | (refine wpList_load_row (o := ⟨some 5, _, _, _, _, _⟩) rfl 29 (.tmp 2) rfl w.heap.size rfl 29 _ _ _ B0 Try.underlying29 rfl hinf ?_) | (go_at_call 17; refine hk.mono ?_; rintro e w1 ⟨us', A, m, d, rfl, P1, S1, N1, hb1⟩; have D2 := B2.below_ hb1; have hv8 := P1.u8; have hinf1 := info_scc (c := c) (us := us') (ev := .slice A m d) hv8; have hold : (scc cf0 nil8 (.slice none 0 0)).toArray.size = (scc c us' (.slice A m d)).toArray.size := (by rw [List.size_toArray, List.size_toArray, scc_len hv8, scc_len rfl]); have hone := scc_one (c := c) P1 A m d; clear hv8) | (refine wpList_store_row (o := ⟨none, .store 29 (.tmp 4) (.tmp 7), _, _, _, _⟩) rfl 29 (.tmp 4) (.tmp 7) rfl (w.heap.size + 1 + 1) _ rfl rfl 29 _ D2 hinf1 hold hone ?_))
  have kr := keeps_row w1 (w.heap.size + 1 + 1) (scc c us' (.slice A m d)).toArray
  have hz := HZ0.out
  have hq : w.heap.size + 1 + 1 < W0.heap.size := by omega
  refine bodyPost_ret (v := .agg (scc c us' (.slice A m d)).toArray) (results_cell_row rfl _ _ (w.heap.size + 1 + 1) 29 _ _ _ rfl (D2.row _) Try.underlying29 rfl hinf1) rfl ⟨us', A, m, d, rfl, (P1.weak (S' := fun b => b < w.heap.size + 1 + 1 + 1) (fun b h => by omega)).keeps (kr.mono fun b h _ => by show b < _; omega), kr.sl S1 (fun ad e q => by have := N1 ad e; omega), fun ad e => by have := N1 ad e; omega, kr.below (bnext kb hb1) (Nat.le_trans (by omega) hb1.size) (fun y hy _ => by omega)⟩
set_option maxHeartbeats 4000000 in
set_option maxRecDepth 100000 in
theorem abv_fresh {w : World} {c : Cf} {us : List Value} {ps : List (List CV)} {EA : Option Addr} {en ec : Nat} {es : List En} (lv : Int) (hP : PIn (fun _ => False) w us ps) (hE : Sl enc_ w EA en ec es) (hen : en ≤ 1000000) (hre : ∀ l, l ∈ ps → l.length * 56 ≤ 140737488351232) :
    Calls Try.prog 11 #[.agg (scc c us (.slice EA en ec)).toArray, .int .i64 lv] w fun e w' => ∃ us' A m d, e = .returned (.agg (scc c us' (.slice A m d)).toArray) ∧ PIn (fun b => b < w.heap.size + 1 + 1 + 1) w' us' (psK (stAb c lv) ps 8) ∧ Sl enc_ w' A m d (es.filter fun e => stAb c lv e.th) ∧ (∀ ad, A = some ad → w.heap.size + 1 + 1 + 1 ≤ ad.block) ∧ Below w.heap.size w w' := by
  have h8 := hP.u8
  go_enter Try.func11, Try.ntmps11
  go_upto_region 1 with (fail)
  obtain ⟨W0, hW0, B0, B1, B2, kb, hz0⟩ : ∃ W0, ((w.alloc (.cells (scc c us (.slice EA en ec)).toArray 29)).alloc (.cells #[.int .i64 lv] 3)).alloc (.cells #[.int .i64 0, .int .i64 0, .int .i64 0, .int .i64 0, .int .i64 0, .int .i64 0, .int .i64 0, .int .i64 0, .int .i64 0, .int .i64 0, .int .i64 0, .int .i64 0, .int .i64 0, .int .i64 0, .slice none 0 0, .slice none 0 0, .slice none 0 0, .slice none 0 0, .slice none 0 0, .slice none 0 0, .slice none 0 0, .slice none 0 0, .slice none 0 0] 29) = W0 ∧ Blk W0 w.heap.size 29 (scc c us (.slice EA en ec)).toArray ∧ Blk W0 (w.heap.size + 1) 3 #[.int .i64 lv] ∧ Blk W0 (w.heap.size + 1 + 1) 29 (scc cf0 nil8 (.slice none 0 0)).toArray ∧ Below w.heap.size w W0 ∧ W0.heap.size = w.heap.size + 1 + 1 + 1 := ⟨_, rfl, ((Blk.new _ _ _).alloc _).alloc _, by have := (Blk.new (w.alloc (.cells (scc c us (.slice EA en ec)).toArray 29)) 3 #[.int .i64 lv]).alloc (.cells #[.int .i64 0, .int .i64 0, .int .i64 0, .int .i64 0, .int .i64 0, .int .i64 0, .int .i64 0, .int .i64 0, .int .i64 0, .int .i64 0, .int .i64 0, .int .i64 0, .int .i64 0, .int .i64 0, .slice none 0 0, .slice none 0 0, .slice none 0 0, .slice none 0 0, .slice none 0 0, .slice none 0 0, .slice none 0 0, .slice none 0 0, .slice none 0 0] 29); rwa [World.size_alloc] at this, by have := Blk.new ((w.alloc (.cells (scc c us (.slice EA en ec)).toArray 29)).alloc (.cells #[.int .i64 lv] 3)) 29 (scc cf0 nil8 (.slice none 0 0)).toArray; rw [World.size_alloc, World.size_alloc] at this; exact this, bnew (bnew (bnew (brefl w) _) _) _, by simp⟩
  rw [hW0]
  clear hW0
  have hinf := info_scc (c := c) (us := us) (ev := .slice EA en ec) h8
  have hk := keep_ab (w := W0) (c := c) (us := us) (ps := ps) (EA := EA) (en := en) (ec := ec) (es := es) (q1 := w.heap.size) (q2 := w.heap.size + 1) (st := stAb c lv) (hP.below kb) (hE.below kb) hen hre (fun W t hW => ab1_any h8 (B0.below_ hW) ((B1.below_ hW).cell 0) t)
  have HZ0 := Lib.hid hz0
  clear hz0
  go_wp2_with (first | (refine wpList_load_row (o := ⟨some 5, _, _, _, _, _⟩) rfl 29 (.tmp 2) rfl w.heap.size rfl 29 _ _ _ B0 Try.underlying29 rfl hinf ?_) | (go_at_call 17; refine hk.mono ?_; rintro e w1 ⟨us', A, m, d, rfl, P1, S1, N1, hb1⟩; have D2 := B2.below_ hb1; have hv8 := P1.u8; have hinf1 := info_scc (c := c) (us := us') (ev := .slice A m d) hv8; have hold : (scc cf0 nil8 (.slice none 0 0)).toArray.size = (scc c us' (.slice A m d)).toArray.size := (by rw [List.size_toArray, List.size_toArray, scc_len hv8, scc_len rfl]); have hone := scc_one (c := c) P1 A m d; clear hv8) | (refine wpList_store_row (o := ⟨none, .store 29 (.tmp 4) (.tmp 7), _, _, _, _⟩) rfl 29 (.tmp 4) (.tmp 7) rfl (w.heap.size + 1 + 1) _ rfl rfl 29 _ D2 hinf1 hold hone ?_))
  have kr := keeps_row w1 (w.heap.size + 1 + 1) (scc c us' (.slice A m d)).toArray
  have hz := HZ0.out
  have hq : w.heap.size + 1 + 1 < W0.heap.size := by omega
  refine bodyPost_ret (v := .agg (scc c us' (.slice A m d)).toArray) (results_cell_row rfl _ _ (w.heap.size + 1 + 1) 29 _ _ _ rfl (D2.row _) Try.underlying29 rfl hinf1) rfl ⟨us', A, m, d, rfl, (P1.weak (S' := fun b => b < w.heap.size + 1 + 1 + 1) (fun b h => by omega)).keeps (kr.mono fun b h _ => by show b < _; omega), kr.sl S1 (fun ad e q => by have := N1 ad e; omega), fun ad e => by have := N1 ad e; omega, kr.below (bnext kb hb1) (Nat.le_trans (by omega) hb1.size) (fun y hy _ => by omega)⟩

theorem PIn.or {S S' : Nat → Prop} {w : World} {us : List Value} {ps : List (List CV)} (h : PIn S w us ps) (h' : PIn S' w us ps) : PIn (fun b => S b ∨ S' b) w us ps :=
  ⟨h.u8, h.p8, fun j l hl => by
    obtain ⟨A, n, c, h1, h2, h3⟩ := h.at_ j l hl
    obtain ⟨A', n', c', k1, k2, k3⟩ := h'.at_ j l hl
    rw [h1] at k1
    cases k1
    exact ⟨A, n, c, h1, h2, fun ad e hne q => q.elim (h3 ad e hne) (k3 ad e hne)⟩⟩
theorem Sl.keepS {α : Type} {f : α → List Value} {s : Nat} (hf : ∀ x, (f x).length = s) {w w' : World} {A : Option Addr} {n c : Nat} {l : List α} {S : Nat → Prop} (h : Sl f w A n c l) (hk : Keeps S w w') (hA : l ≠ [] → ∀ ad, A = some ad → ad.block < w.heap.size → ¬ S ad.block) (hs : 0 < s) : Sl f w' A n c l := by
  by_cases he : l = []
  · subst he
    exact ⟨h.len, h.cap, Rd.nil _ _, h.nil_⟩
  · refine h.mono (h.rd.keep fun p hp hlt => ?_)
    have hne : l.flatMap f ≠ [] := fun e => by
      have := congrArg List.length e
      rw [flat_len hf] at this
      rcases Nat.mul_eq_zero.1 (by simpa using this) with q | q
      · exact he (List.eq_nil_of_length_eq_zero q)
      · omega
    obtain ⟨ad, ha⟩ := h.rd.ne_nil hne
    have hb := h.rd.lt hne ad ha
    have := hA he ad ha hb
    rw [← hp ad ha] at this
    exact World.cell?_of_block (w := w) (hk.block p.block hlt this)
/-- The state of the weaving: what has been laid, in a row of its own; the script in block s3 holds it. -/
structure WSt (W4 : World) (s3 : Nat) (c : Cf) (vs : List Value) (out : List En) (A' : Option Addr) (m c' : Nat) (W : World) : Prop where
  v8 : vs.length = 8
  own : W.ownsRow W4.heap.size 42 2 (.slice A' m c') m (out.flatMap enc_)
  b3 : Blk W s3 29 (scc c vs (.slice A' m c')).toArray
  kk : Keeps (fun b => b = s3 ∨ W4.heap.size ≤ b) W4 W
section
variable {W4 W w8 : World} {s3 : Nat} {c : Cf} {vs : List Value} {out : List En} {A' A8 : Option Addr} {m c' c8 : Nat}
theorem WSt.alloc (h : WSt W4 s3 c vs out A' m c' W) (o : Obj) : WSt W4 s3 c vs out A' m c' (W.alloc o) := ⟨h.v8, h.own.alloc _, h.b3.alloc _, h.kk.alloc _⟩
theorem WSt.drew (h : WSt W4 s3 c vs out A' m c' W) : WSt W4 s3 c vs out A' m c' W.drew := ⟨h.v8, h.own, h.b3.drew, h.kk.drew⟩
theorem WSt.c22 (h : WSt W4 s3 c vs out A' m c' W) : W.cell? ⟨s3, 22, none⟩ = some (.slice A' m c') := (h.b3.cell 22).trans (by rw [List.getElem?_toArray]; exact scc_last h.v8)
theorem WSt.grown {ys : List Value} {n' : Nat} (h : WSt W4 s3 c vs out A' m c' W) (hg : W.grownBy w8 (Value.slice A' m c').ownBlock) : Blk w8 s3 29 (scc c vs (.slice A' m c')).toArray ∧ Keeps (fun b => b = s3 ∨ W4.heap.size ≤ b) W4 w8 :=
  ⟨h.b3.grown hg (fun q => own_ne_blk h.own h.b3 (by decide) q.symm), h.kk.trans_ (((Keeps.refl _ W).grown hg (fun k q _ => .inr (own_ge h.own k q))).mono fun b hb _ => hb)⟩
/-- What is laid behind. -/
theorem WSt.push {l : List En} {n' : Nat} (h : WSt W4 s3 c vs out A' m c' W) (hs3 : s3 < W4.heap.size) (hg : W.grownBy w8 (Value.slice A' m c').ownBlock) (own8 : w8.ownsRow W4.heap.size 42 2 (.slice A8 n' c8) n' (out.flatMap enc_ ++ l.flatMap enc_)) : WSt W4 s3 c vs (out ++ l) A8 n' c8 (w8.setCell ⟨s3, 22, none⟩ (.slice A8 n' c8)) := by
  have g2 := h.b3.grown hg (fun q => own_ne_blk h.own h.b3 (by decide) q.symm)
  refine ⟨h.v8, ?_, ?_, ?_⟩
  · rw [List.flatMap_append]
    exact ((Keeps.refl (fun b => b = s3) w8).setCell (p := ⟨s3, 22, none⟩) (fun _ => rfl) _).own own8 (fun k' q1 q2 => own_ne_blk own8 g2 (by decide) (by rw [q1, q2]))
  · rw [← scc_setl h.v8, ← List.setIfInBounds_toArray]
    exact g2.set_ _ _
  · exact ((h.kk.trans_ ((Keeps.refl _ W).grown hg (fun k q _ => .inr (own_ge h.own k q)))).setCell (p := ⟨s3, 22, none⟩) (fun _ => .inl rfl) _)
end
end Go.Proofs.Ytijffncgokcidaa
