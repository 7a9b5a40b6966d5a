/- Scripts: purged, and what goes. -/
import Derived.Test.YtijffncgokcidaaPurgeCC
namespace Go.Proofs.Ytijffncgokcidaa
set_option linter.unusedVariables false
set_option linter.unusedSimpArgs false
open Go.RowKit

def stTo (c : Cf) (lv : Int) (t : Int) : Bool := !abB c t lv
def stAb (c : Cf) (lv : Int) (t : Int) : Bool := abB c t lv
set_option maxHeartbeats 4000000 in
set_option maxRecDepth 100000 in
theorem to_any {w : World} {c : Cf} {us : List Value} {ps : List (List CV)} {EA : Option Addr} {en ec : Nat} {es : List En} (lv : Int) (hP : PIn (fun _ => False) w us ps) (hE : Sl enc_ w EA en ec es) (hen : en ≤ 1000000) (hre : ∀ l, l ∈ ps → l.length * 56 ≤ 140737488351232) :
    Calls Try.prog 9 #[.agg (scc c us (.slice EA en ec)).toArray, .int .i64 lv] w fun e w' => ∃ us' A m d, e = .returned (.agg (scc c us' (.slice A m d)).toArray) ∧ PIn (fun _ => False) w' us' (psK (stTo c lv) ps 8) ∧ Sl enc_ w' A m d (es.filter fun e => stTo c lv e.th) ∧ Below w.heap.size w w' := by
  have h8 := hP.u8
  go_enter Try.func9, Try.ntmps9
  go_upto_region 1 with (fail)
  obtain ⟨W0, hW0, B0, B1, B2, kb, hz0⟩ : ∃ W0, ((w.alloc (.cells (scc c us (.slice EA en ec)).toArray 29)).alloc (.cells #[.int .i64 lv] 3)).alloc (.cells #[.int .i64 0, .int .i64 0, .int .i64 0, .int .i64 0, .int .i64 0, .int .i64 0, .int .i64 0, .int .i64 0, .int .i64 0, .int .i64 0, .int .i64 0, .int .i64 0, .int .i64 0, .int .i64 0, .slice none 0 0, .slice none 0 0, .slice none 0 0, .slice none 0 0, .slice none 0 0, .slice none 0 0, .slice none 0 0, .slice none 0 0, .slice none 0 0] 29) = W0 ∧ Blk W0 w.heap.size 29 (scc c us (.slice EA en ec)).toArray ∧ Blk W0 (w.heap.size + 1) 3 #[.int .i64 lv] ∧ Blk W0 (w.heap.size + 1 + 1) 29 (scc cf0 nil8 (.slice none 0 0)).toArray ∧ Below w.heap.size w W0 ∧ W0.heap.size = w.heap.size + 1 + 1 + 1 := ⟨_, rfl, ((Blk.new _ _ _).alloc _).alloc _, by have := (Blk.new (w.alloc (.cells (scc c us (.slice EA en ec)).toArray 29)) 3 #[.int .i64 lv]).alloc (.cells #[.int .i64 0, .int .i64 0, .int .i64 0, .int .i64 0, .int .i64 0, .int .i64 0, .int .i64 0, .int .i64 0, .int .i64 0, .int .i64 0, .int .i64 0, .int .i64 0, .int .i64 0, .int .i64 0, .slice none 0 0, .slice none 0 0, .slice none 0 0, .slice none 0 0, .slice none 0 0, .slice none 0 0, .slice none 0 0, .slice none 0 0, .slice none 0 0] 29); rwa [World.size_alloc] at this, by have := Blk.new ((w.alloc (.cells (scc c us (.slice EA en ec)).toArray 29)).alloc (.cells #[.int .i64 lv] 3)) 29 (scc cf0 nil8 (.slice none 0 0)).toArray; rw [World.size_alloc, World.size_alloc] at this; exact this, bnew (bnew (bnew (brefl w) _) _) _, by simp⟩
  rw [hW0]
  clear hW0
  have hinf := info_scc (c := c) (us := us) (ev := .slice EA en ec) h8
  have hk := keep_to (w := W0) (c := c) (us := us) (ps := ps) (EA := EA) (en := en) (ec := ec) (es := es) (q1 := w.heap.size) (q2 := w.heap.size + 1) (st := stTo c lv) (hP.below kb) (hE.below kb) hen hre (fun W t hW => to1_any h8 (B0.below_ hW) ((B1.below_ hW).cell 0) t)
  have HZ0 := Lib.hid hz0
  clear hz0
  go_wp2_with (first | (refine wpList_load_row (o := ⟨some 5, _, _, _, _, _⟩) rfl 29 (.tmp 2) rfl w.heap.size rfl 29 _ _ _ B0 Try.underlying29 rfl hinf ?_) | (go_at_call 17; refine hk.mono ?_; rintro e w1 ⟨us', A, m, d, rfl, P1, S1, N1, hb1⟩; have D2 := B2.below_ hb1; have hv8 := P1.u8; have hinf1 := info_scc (c := c) (us := us') (ev := .slice A m d) hv8; have hold : (scc cf0 nil8 (.slice none 0 0)).toArray.size = (scc c us' (.slice A m d)).toArray.size := (by rw [List.size_toArray, List.size_toArray, scc_len hv8, scc_len rfl]); have hone := scc_one (c := c) P1 A m d; clear hv8) | (refine wpList_store_row (o := ⟨none, .store 29 (.tmp 4) (.tmp 7), _, _, _, _⟩) rfl 29 (.tmp 4) (.tmp 7) rfl (w.heap.size + 1 + 1) _ rfl rfl 29 _ D2 hinf1 hold hone ?_))
  have kr := keeps_row w1 (w.heap.size + 1 + 1) (scc c us' (.slice A m d)).toArray
  have hz := HZ0.out
  have hq : w.heap.size + 1 + 1 < W0.heap.size := by omega
  refine bodyPost_ret (v := .agg (scc c us' (.slice A m d)).toArray) (results_cell_row rfl _ _ (w.heap.size + 1 + 1) 29 _ _ _ rfl (D2.row _) Try.underlying29 rfl hinf1) rfl ⟨us', A, m, d, rfl, ((P1.weak (S' := fun b => b = w.heap.size + 1 + 1) (fun b h => by omega)).keeps kr).weak (fun b h => h.elim), kr.sl S1 (fun ad e q => by have := N1 ad e; omega), kr.below (bnext kb hb1) (Nat.le_trans (by omega) hb1.size) (fun y hy _ => by omega)⟩
set_option maxHeartbeats 4000000 in
set_option maxRecDepth 100000 in
theorem abv_any {w : World} {c : Cf} {us : List Value} {ps : List (List CV)} {EA : Option Addr} {en ec : Nat} {es : List En} (lv : Int) (hP : PIn (fun _ => False) w us ps) (hE : Sl enc_ w EA en ec es) (hen : en ≤ 1000000) (hre : ∀ l, l ∈ ps → l.length * 56 ≤ 140737488351232) :
    Calls Try.prog 11 #[.agg (scc c us (.slice EA en ec)).toArray, .int .i64 lv] w fun e w' => ∃ us' A m d, e = .returned (.agg (scc c us' (.slice A m d)).toArray) ∧ PIn (fun _ => False) w' us' (psK (stAb c lv) ps 8) ∧ Sl enc_ w' A m d (es.filter fun e => stAb c lv e.th) ∧ Below w.heap.size w w' := by
  have h8 := hP.u8
  go_enter Try.func11, Try.ntmps11
  go_upto_region 1 with (fail)
  obtain ⟨W0, hW0, B0, B1, B2, kb, hz0⟩ : ∃ W0, ((w.alloc (.cells (scc c us (.slice EA en ec)).toArray 29)).alloc (.cells #[.int .i64 lv] 3)).alloc (.cells #[.int .i64 0, .int .i64 0, .int .i64 0, .int .i64 0, .int .i64 0, .int .i64 0, .int .i64 0, .int .i64 0, .int .i64 0, .int .i64 0, .int .i64 0, .int .i64 0, .int .i64 0, .int .i64 0, .slice none 0 0, .slice none 0 0, .slice none 0 0, .slice none 0 0, .slice none 0 0, .slice none 0 0, .slice none 0 0, .slice none 0 0, .slice none 0 0] 29) = W0 ∧ Blk W0 w.heap.size 29 (scc c us (.slice EA en ec)).toArray ∧ Blk W0 (w.heap.size + 1) 3 #[.int .i64 lv] ∧ Blk W0 (w.heap.size + 1 + 1) 29 (scc cf0 nil8 (.slice none 0 0)).toArray ∧ Below w.heap.size w W0 ∧ W0.heap.size = w.heap.size + 1 + 1 + 1 := ⟨_, rfl, ((Blk.new _ _ _).alloc _).alloc _, by have := (Blk.new (w.alloc (.cells (scc c us (.slice EA en ec)).toArray 29)) 3 #[.int .i64 lv]).alloc (.cells #[.int .i64 0, .int .i64 0, .int .i64 0, .int .i64 0, .int .i64 0, .int .i64 0, .int .i64 0, .int .i64 0, .int .i64 0, .int .i64 0, .int .i64 0, .int .i64 0, .int .i64 0, .int .i64 0, .slice none 0 0, .slice none 0 0, .slice none 0 0, .slice none 0 0, .slice none 0 0, .slice none 0 0, .slice none 0 0, .slice none 0 0, .slice none 0 0] 29); rwa [World.size_alloc] at this, by have := Blk.new ((w.alloc (.cells (scc c us (.slice EA en ec)).toArray 29)).alloc (.cells #[.int .i64 lv] 3)) 29 (scc cf0 nil8 (.slice none 0 0)).toArray; rw [World.size_alloc, World.size_alloc] at this; exact this, bnew (bnew (bnew (brefl w) _) _) _, by simp⟩
  rw [hW0]
  clear hW0
  have hinf := info_scc (c := c) (us := us) (ev := .slice EA en ec) h8
  have hk := keep_ab (w := W0) (c := c) (us := us) (ps := ps) (EA := EA) (en := en) (ec := ec) (es := es) (q1 := w.heap.size) (q2 := w.heap.size + 1) (st := stAb c lv) (hP.below kb) (hE.below kb) hen hre (fun W t hW => ab1_any h8 (B0.below_ hW) ((B1.below_ hW).cell 0) t)
  have HZ0 := Lib.hid hz0
  clear hz0
  go_wp2_with (first | (refine wpList_load_row (o := ⟨some 5, _, _, _, _, _⟩) rfl 29 (.tmp 2) rfl w.heap.size rfl 29 _ _ _ B0 Try.underlying29 rfl hinf ?_) | (go_at_call 17; refine hk.mono ?_; rintro e w1 ⟨us', A, m, d, rfl, P1, S1, N1, hb1⟩; have D2 := B2.below_ hb1; have hv8 := P1.u8; have hinf1 := info_scc (c := c) (us := us') (ev := .slice A m d) hv8; have hold : (scc cf0 nil8 (.slice none 0 0)).toArray.size = (scc c us' (.slice A m d)).toArray.size := (by rw [List.size_toArray, List.size_toArray, scc_len hv8, scc_len rfl]); have hone := scc_one (c := c) P1 A m d; clear hv8) | (refine wpList_store_row (o := ⟨none, .store 29 (.tmp 4) (.tmp 7), _, _, _, _⟩) rfl 29 (.tmp 4) (.tmp 7) rfl (w.heap.size + 1 + 1) _ rfl rfl 29 _ D2 hinf1 hold hone ?_))
  have kr := keeps_row w1 (w.heap.size + 1 + 1) (scc c us' (.slice A m d)).toArray
  have hz := HZ0.out
  have hq : w.heap.size + 1 + 1 < W0.heap.size := by omega
  refine bodyPost_ret (v := .agg (scc c us' (.slice A m d)).toArray) (results_cell_row rfl _ _ (w.heap.size + 1 + 1) 29 _ _ _ rfl (D2.row _) Try.underlying29 rfl hinf1) rfl ⟨us', A, m, d, rfl, ((P1.weak (S' := fun b => b = w.heap.size + 1 + 1) (fun b h => by omega)).keeps kr).weak (fun b h => h.elim), kr.sl S1 (fun ad e q => by have := N1 ad e; omega), kr.below (bnext kb hb1) (Nat.le_trans (by omega) hb1.size) (fun y hy _ => by omega)⟩
end Go.Proofs.Ytijffncgokcidaa
