/- Threads: the chapter's example; a thread that isn't there; ThreadNone. -/
import Derived.Test.YtclhlgeicfhdiaaThreadH
namespace Go.Proofs.Ytclhlgeicfhdiaa
set_option linter.unusedVariables false
set_option linter.unusedSimpArgs false
open Go.RowKit

theorem Goes.up {w w0 w' : World} {B base p : Nat} {t t' : Th} {L : TL} (hb : Below B w0 w) (hB : B ≤ w.heap.size) (hbase : B ≤ base) (h : TBox w base p t L) (hg : Goes base p w L t' w') : ∃ L', TBox w' base p t' L' ∧ Below B w0 w' ∧ w.heap.size ≤ w'.heap.size := by
  obtain ⟨L', h1, h2, _⟩ := hg
  exact ⟨L', h1, h2.below hb hB fun x hx _ => Nat.le_trans hbase (h.S_ge hx), h2.size⟩
theorem TBox.setp {w : World} {base p : Nat} {t : Th} {L : TL} (h : TBox w base p t L) (j : Nat) (v : Value) (t' : Th) (h1 : (thc t L).toArray.setIfInBounds j v = (thc t' L).toArray) (h2 : t'.frames = t.frames) (h3 : t'.hs = t.hs) (h4 : t'.told.length = 8) : TBox (w.setCell ⟨p, j, none⟩ v) base p t' L := by
  have kp : Keeps (fun b => b = p) w (w.setCell ⟨p, j, none⟩ v) := keepq_set (Keeps.refl _ _)
  refine ⟨?_, ?_, ?_, fun i f hi => ?_, h.nd, h.lo, h4, fun f hf => h.r16 f (by rw [← h2]; exact hf)⟩
  · rw [← h1]; exact h.blk.set_ j v
  · rw [h2]; exact kp.own h.fs fun k e q => own_ne_blk h.fs h.blk (by decide) (by rw [e, q])
  · rw [h3]; exact kp.own h.hs fun k e q => own_ne_blk h.hs h.blk (by decide) (by rw [e, q])
  · rw [h2] at hi
    obtain ⟨q, h5, h6⟩ := h.fr i f hi
    exact ⟨q, h5, kp.blk h6 (h6.ne_ h.blk (by decide))⟩
theorem thc_owns {t : Th} {L : TL} (h : t.told.length = 8) (x : Int) : (thc t L).toArray.setIfInBounds 8 (.int .i64 x) = (thc { t with owns := x } L).toArray := by
  obtain ⟨told, owns, st, ki, frames, hs⟩ := t
  obtain ⟨a0, a1, a2, a3, a4, a5, a6, a7, rfl⟩ := len8 h
  simp [thc]
theorem thc_st {t : Th} {L : TL} (h : t.told.length = 8) (x : Bool) : (thc t L).toArray.setIfInBounds 9 (.bool x) = (thc { t with st := x } L).toArray := by
  obtain ⟨told, owns, st, ki, frames, hs⟩ := t
  obtain ⟨a0, a1, a2, a3, a4, a5, a6, a7, rfl⟩ := len8 h
  simp [thc]
theorem thc_ki {t : Th} {L : TL} (h : t.told.length = 8) (x : Bool) : (thc t L).toArray.setIfInBounds 10 (.bool x) = (thc { t with ki := x } L).toArray := by
  obtain ⟨told, owns, st, ki, frames, hs⟩ := t
  obtain ⟨a0, a1, a2, a3, a4, a5, a6, a7, rfl⟩ := len8 h
  simp [thc]
set_option maxHeartbeats 4000000 in
set_option maxRecDepth 100000 in
theorem lives20 (w : World) : Calls Try.prog 7 #[] w fun e w' => e = .returned (.bool true) ∧ Below w.heap.size w w' := by
  go_enter Try.func7, Try.ntmps7
  go_upto_region 2 with (go_at_call 8; refine (new_any _).mono ?_; rintro e w1 ⟨rfl, h1, hb1⟩)
  have hs1 := hb1.size
  have hp1 := h1.blk.lt
  have hc2 := call_any (h1.below (bnew (brefl w1) (.cells #[.int .u64 1, .int .u64 2] 33))) 7 (Sl.of_words (l := [1, 2]) (n := 2) (c := 2) (Blk.new w1 33 _) rfl (Nat.le_refl _)) (by simp; omega) (by decide) (by decide)
  go_upto_region 3 with (go_at_call 11; refine hc2.mono ?_; rintro e w2 ⟨rfl, hg2⟩)
  obtain ⟨L2, h2, hb2, hs2⟩ := Goes.up (bnew hb1 _) (by simp; omega) (Nat.le_refl _) (h1.below (bnew (brefl w1) _)) hg2
  clear hg2 hc2
  simp only [World.size_alloc] at hs2
  obtain ⟨q, hq, hbq⟩ := h2.fr 0 ⟨7, 0, pad 16 [1, 2]⟩ rfl
  have htop := top_some h2 (n := 0) rfl hq (by decide)
  have cq : w2.cell? ⟨q, 3, none⟩ = some (.int .u64 2) := (hbq.cell 3).trans rfl
  clear h1 hb1
  go_upto_region 5 with (go_at_call 13; refine htop.mono ?_; rintro e w3 ⟨rfl, rfl⟩)
  clear hbq htop cq hq
  have hp2 := h2.blk.lt
  have hc3 := back_any (h2.below (bnew (brefl w2) (.cells #[.int .u64 5] 33))) (Sl.of_words (l := [5]) (n := 1) (c := 1) (Blk.new w2 33 _) rfl (Nat.le_refl _)) (fun ad h _ => by cases h; dsimp only; omega) (by decide)
  go_upto_region 6 with (go_at_call 15; refine hc3.mono ?_; rintro e w4 ⟨rfl, hg4⟩)
  obtain ⟨L4, h4, hb4, _⟩ := Goes.up (bnew hb2 _) (by simp; omega) (Nat.le_refl _) (h2.below (bnew (brefl w2) _)) hg4
  have hd := deep_any h4
  have ht : w4.cell? ⟨w.heap.size, 0, none⟩ = some (.int .u64 5) := h4.told_ rfl
  have hzz := h4.blk.lt
  have he : ((th0.call ⟨7, 0, pad 16 [1, 2]⟩).back (pad 8 [5])).frames.length = 0 := rfl
  rw [he] at hd
  clear h4 hg4 hc3 he h2
  go_wp2_with (go_at_call 10; refine hd.mono ?_; rintro e w5 ⟨rfl, rfl⟩)
  go_ret
  exact ⟨rfl, hb4⟩
theorem do_nil_0 (n : Int) (RA : Option Addr) (rn rc : Nat) (w : World) : Calls Try.prog 9 #[.pointer none, .agg #[.int .i64 0, .int .i64 n, .slice RA rn rc]] w fun e w' => e = .returned (.tuple #[]) ∧ Below w.heap.size w w' := by
  go_enter Try.func9, Try.ntmps9
  go_wp2_with (go_at_call 11; refine (call_nil _ _ _ _ _).mono ?_; rintro e w1 ⟨rfl, rfl⟩)
  first | go_end0 | refine bodyPost_ret (results_none rfl _ _ _) rfl ?_
  exact ⟨rfl, bnew (brefl w) _⟩
theorem do_nil_1 (n : Int) (RA : Option Addr) (rn rc : Nat) (w : World) : Calls Try.prog 9 #[.pointer none, .agg #[.int .i64 1, .int .i64 n, .slice RA rn rc]] w fun e w' => e = .returned (.tuple #[]) ∧ Below w.heap.size w w' := by
  go_enter Try.func9, Try.ntmps9
  go_wp2_with (go_at_call 15; refine (back_nil _ _ _ _).mono ?_; rintro e w1 ⟨rfl, rfl⟩)
  first | go_end0 | refine bodyPost_ret (results_none rfl _ _ _) rfl ?_
  exact ⟨rfl, bnew (brefl w) _⟩
theorem do_nil_2 (n : Int) (RA : Option Addr) (rn rc : Nat) (w : World) : Calls Try.prog 9 #[.pointer none, .agg #[.int .i64 2, .int .i64 n, .slice RA rn rc]] w fun e w' => e = .returned (.tuple #[]) ∧ Below w.heap.size w w' := by
  go_enter Try.func9, Try.ntmps9
  go_wp2_with (go_at_call 12; refine (note_nil _ _).mono ?_; rintro e w1 ⟨rfl, rfl⟩)
  first | go_end0 | refine bodyPost_ret (results_none rfl _ _ _) rfl ?_
  exact ⟨rfl, bnew (brefl w) _⟩
theorem do_nil_3 (n : Int) (RA : Option Addr) (rn rc : Nat) (w : World) : Calls Try.prog 9 #[.pointer none, .agg #[.int .i64 3, .int .i64 n, .slice RA rn rc]] w fun e w' => e = .returned (.tuple #[]) ∧ Below w.heap.size w w' := by
  go_enter Try.func9, Try.ntmps9
  go_wp2_with (go_at_call 13; refine (top_nil _).mono ?_; rintro e w1 ⟨rfl, rfl⟩)
  first | go_end0 | refine bodyPost_ret (results_none rfl _ _ _) rfl ?_
  exact ⟨rfl, bnew (brefl w) _⟩
set_option maxHeartbeats 4000000 in
set_option maxRecDepth 100000 in
theorem do_nil (k n : Int) (RA : Option Addr) (rn rc : Nat) (w : World) : Calls Try.prog 9 #[.pointer none, .agg #[.int .i64 k, .int .i64 n, .slice RA rn rc]] w fun e w' => e = .returned (.tuple #[]) ∧ Below w.heap.size w w' := by
  by_cases h0 : k = 0
  · subst h0; exact do_nil_0 n RA rn rc w
  by_cases h1 : k = 1
  · subst h1; exact do_nil_1 n RA rn rc w
  by_cases h2 : k = 2
  · subst h2; exact do_nil_2 n RA rn rc w
  by_cases h3 : k = 3
  · subst h3; exact do_nil_3 n RA rn rc w
  have t0 : (k == 0) = false := by simpa using h0
  have t1 : (k == 1) = false := by simpa using h1
  have t2 : (k == 2) = false := by simpa using h2
  have t3 : (k == 3) = false := by simpa using h3
  clear h0 h1 h2 h3
  go_enter Try.func9, Try.ntmps9
  go_wp2
  first | go_end0 | refine bodyPost_ret (results_none rfl _ _ _) rfl ?_
  exact ⟨rfl, bnew (brefl w) _⟩
set_option maxHeartbeats 4000000 in
set_option maxRecDepth 100000 in
theorem none_any (k n : Int) (RA : Option Addr) (rn rc : Nat) (st ki : Bool) (w : World) : Calls Try.prog 5 #[.agg #[.int .i64 k, .int .i64 n, .slice RA rn rc], .bool st, .bool ki] w fun e w' => e = .returned (.bool true) ∧ Below w.heap.size w w' := by
  go_enter Try.func5, Try.ntmps5
  go_upto_region 3 with (go_at_call 9; refine (do_nil k n RA rn rc _).mono ?_; rintro e w1 ⟨rfl, hb1⟩)
  have kb := bnext (bnew (brefl w) _) hb1
  clear hb1
  go_upto_region 5 with (first | (go_at_call 13; refine (top_nil _).mono ?_; rintro e wa ⟨rfl, rfl⟩) | (go_at_call 10; refine (deep_nil _).mono ?_; rintro e wa ⟨rfl, rfl⟩) | (go_at_call 14; refine (handle_nil 1 _).mono ?_; rintro e wa ⟨rfl, rfl⟩) | (go_at_call 19; refine (noted_nil 1 _).mono ?_; rintro e wa ⟨rfl, rfl⟩) | (go_at_call 20; refine (runs_nil _).mono ?_; rintro e wa ⟨rfl, rfl⟩) | (go_at_call 18; refine (clone_nil _).mono ?_; rintro e wa ⟨rfl, rfl⟩))
  go_upto_region 6 with (go_at_call 8; refine (new_any _).mono ?_; rintro e w2 ⟨rfl, h2, hb2⟩)
  have kb2 := bnext kb hb2
  have hsz := kb.size
  have c9 := h2.c9
  have f9 := h2.blk.frozen 9
  have c10 := h2.c10
  have f10 := h2.blk.frozen 10
  have hz2 := h2.blk.lt
  go_upto_region 10 with (fail)
  obtain ⟨W3, hW3, h3, kb3⟩ : ∃ W3, (w2.setCell ⟨w1.heap.size, 9, none⟩ (.bool st)).setCell ⟨w1.heap.size, 10, none⟩ (.bool ki) = W3 ∧ TBox W3 w1.heap.size w1.heap.size { th0 with st := st, ki := ki } tl0 ∧ Below w.heap.size w W3 :=
    ⟨_, rfl, (h2.setp 9 _ { th0 with st := st } (thc_st h2.t8 _) rfl rfl h2.t8).setp 10 _ _ (thc_ki (t := { th0 with st := st }) h2.t8 _) rfl rfl h2.t8, bset (bset kb2 hsz _) hsz _⟩
  rw [hW3]
  have hr := runs_any h3
  clear hW3 c9 f9 c10 f10 h2 hb2 h3 hz2
  cases st <;> cases ki
  all_goals
    go_wp2_with (first | (go_at_call 20; refine hr.mono ?_; rintro e wa ⟨rfl, rfl⟩) | (go_at_call 7; refine (lives20 _).mono ?_; rintro e wb ⟨rfl, hbb⟩))
    go_ret
    exact ⟨rfl, bnext kb3 hbb⟩
end Go.Proofs.Ytclhlgeicfhdiaa
