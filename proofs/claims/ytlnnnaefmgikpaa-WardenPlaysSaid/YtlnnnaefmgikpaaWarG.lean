/- A warden that isn't there; the chapter's example. -/
import Derived.Test.YtlnnnaefmgikpaaWarF
namespace Go.Proofs.Ytlnnnaefmgikpaa
set_option linter.unusedVariables false
set_option linter.unusedSimpArgs false
open Go.RowKit

theorem keeps_fp {w0 w w' : World} {p bh bg : Nat} (hk : Keeps (fun x => x = p ∨ x = bh ∨ x = bg) w w') (h0 : Below w0.heap.size w0 w) (h1 : w0.heap.size ≤ p) (h2 : w0.heap.size ≤ bh) (h3 : w0.heap.size ≤ bg) : Below w0.heap.size w0 w' :=
  hk.below h0 h0.size (fun x hx _ => by rcases hx with hx | hx | hx <;> omega)
set_option maxHeartbeats 4000000 in
set_option maxRecDepth 100000 in
theorem clone_nil (w : World) : Calls Try.prog 17 #[.pointer none] w fun e w' => e = .returned (.pointer none) ∧ w = w' := by
  go_enter Try.func17, Try.ntmps17
  go_wp2
  go_ret
  exact ⟨rfl, rfl⟩
set_option maxHeartbeats 4000000 in
set_option maxRecDepth 100000 in
theorem lives07 (w : World) : Calls Try.prog 6 #[] w fun e w' => e = .returned (.bool true) ∧ Below w.heap.size w w' := by
  have hnew := new_any 1 5 w (by omega) (by omega) (by omega) (by omega)
  have tok1 : True := trivial; have tok2 : True := trivial; have tok3 : True := trivial; have tok4 : True := trivial; have tok5 : True := trivial; have tok6 : True := trivial
  go_enter Try.func6, Try.ntmps6
  go_wp2_with (first
    | (have _t := tok1; go_at_call 7; refine (hnew).mono ?_; rintro e w1 ⟨p, bh, bg, rfl, p1, p2, p3, h1, hb1⟩; have ht := take_free h1 (by omega) 0 3 (by decide) (by decide); clear tok1 _t)
    | (have _t := tok2; go_at_call 8; refine (ht).mono ?_; rintro e w2 ⟨rfl, h2, k2⟩; have hb2 := keeps_fp k2 hb1 p1 p2 p3; have hd := drop_held h2 (by omega) 0 3 (by decide) (by decide); clear tok2 _t)
    | (have _t := tok3; go_at_call 9; refine (hd).mono ?_; rintro e w3 ⟨rfl, h3, k3⟩; have hb3 := keeps_fp k3 hb2 p1 p2 p3; have hl := link_in h3 0 3 (by decide); clear tok3 _t)
    | (have _t := tok4; go_at_call 10; refine (hl).mono ?_; rintro e w4 ⟨rfl, hb4⟩; have h4 := h3.below hb4; have hd2 := drop_free h4 (by omega) 0 3 (by decide) (by decide); clear tok4 _t)
    | (have _t := tok5; go_at_call 9; refine (hd2).mono ?_; rintro e w5 ⟨rfl, h5, k5⟩; have hb5 := keeps_fp k5 (bnext hb3 hb4) p1 p2 p3; have hs := slips_any h5; clear tok5 _t)
    | (have _t := tok6; go_at_call 18; refine (hs).mono ?_; rintro e w6 ⟨rfl, rfl⟩; clear tok6 _t))
  go_ret
  exact ⟨rfl, hb5⟩
set_option maxHeartbeats 4000000 in
set_option maxRecDepth 100000 in
theorem wardennone_any (tk : Bool) (a b n : Int) (ha : wfI a) (hn : U64 n) (w : World) : Calls Try.prog 5 #[.agg #[.bool tk, .int .i64 a, .int .i64 b], .int .u64 n] w fun e w' => e = .returned (.bool true) ∧ Below w.heap.size w w' := by
  go_enter Try.func5, Try.ntmps5
  go_upto_region 1 with (fail)
  obtain ⟨W1, hW1, d1, d2, kb⟩ : ∃ W1, w.alloc (.cells #[.bool tk, .int .i64 a, .int .i64 b] 24) = W1 ∧ W1.cell? ⟨w.heap.size, 1, none⟩ = some (.int .i64 a) ∧ W1.cell? ⟨w.heap.size, 2, none⟩ = some (.int .i64 b) ∧ Below w.heap.size w W1 := ⟨_, rfl, (Blk.new w 24 #[.bool tk, .int .i64 a, .int .i64 b]).cell 1, (Blk.new w 24 #[.bool tk, .int .i64 a, .int .i64 b]).cell 2, bnew (brefl w) _⟩
  rw [hW1]
  have hqz := block_lt_of_cell d1
  clear hW1
  generalize w.heap.size = q at d1 d2 hqz ⊢
  have tok1 : True := trivial; have tok2 : True := trivial; have tok3 : True := trivial; have tok4 : True := trivial; have tok5 : True := trivial; have tok6 : True := trivial; have tok7 : True := trivial; have tok8 : True := trivial
  go_wp2_with (first
    | (have _t := tok1; go_at_call 8; refine (take_nil a b _).mono ?_; rintro e w1 ⟨rfl, hb1⟩; have kk1 := hb1; have f1 := keep_below d1 kk1; have g1 := keep_below d2 kk1; have z1 := block_lt_of_cell f1; clear tok1 _t)
    | (have _t := tok2; go_at_call 9; refine (drop_nil a b _).mono ?_; rintro e w2 ⟨rfl, hb2⟩; have kk2 := bnext kk1 hb2; have f2 := keep_below d1 kk2; have g2 := keep_below d2 kk2; have z2 := block_lt_of_cell f2; clear tok2 _t)
    | (have _t := tok3; go_at_call 12; refine (leads_nil a n hn _).mono ?_; rintro e w3 ⟨rfl, hb3⟩; have kk3 := bnext kk2 hb3; have f3 := keep_below d1 kk3; have g3 := keep_below d2 kk3; have z3 := block_lt_of_cell f3; clear tok3 _t)
    | (have _t := tok4; go_at_call 10; refine (link_nil a b _).mono ?_; rintro e w4 ⟨rfl, hb4⟩; have kk4 := bnext kk3 hb4; have f4 := keep_below d1 kk4; have g4 := keep_below d2 kk4; have z4 := block_lt_of_cell f4; clear tok4 _t)
    | (have _t := tok5; go_at_call 11; refine (held_nil a _).mono ?_; rintro e w5 ⟨rfl, rfl⟩; clear tok5 _t)
    | (have _t := tok6; go_at_call 18; refine (slips_nil _).mono ?_; rintro e w6 ⟨rfl, rfl⟩; clear tok6 _t)
    | (have _t := tok7; go_at_call 17; refine (clone_nil _).mono ?_; rintro e w7 ⟨rfl, rfl⟩; clear tok7 _t)
    | (have _t := tok8; go_at_call 6; refine (lives07 _).mono ?_; rintro e w8 ⟨rfl, hb8⟩; clear tok8 _t))
  go_ret
  exact ⟨rfl, bnext kb (bnext kk4 hb8)⟩
end Go.Proofs.Ytlnnnaefmgikpaa
