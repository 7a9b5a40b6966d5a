/- Scripts, woven: the program's walk. -/
import Derived.Test.YtijffncgokcidaaPurgeK
namespace Go.Proofs.Ytijffncgokcidaa
set_option linter.unusedVariables false
set_option linter.unusedSimpArgs false
open Go.RowKit

def itc (x : Int) : List Value := [.int .i64 x]
theorem itc_len (x : Int) : (itc x).length = 1 := rfl
set_option maxHeartbeats 4000000 in
set_option maxRecDepth 100000 in
theorem weave_a {w : World} {c c2 : Cf} {us us2 : List Value} {ps ps2 : List (List CV)} {EA EA2 AA : Option Addr} {en ec en2 ec2 an ad : Nat} {es es2 : List En} {al : List Int} (hP : PIn (fun _ => False) w us ps) (hE : Sl enc_ w EA en ec es) (hP2 : PIn (fun _ => False) w us2 ps2) (hE2 : Sl enc_ w EA2 en2 ec2 es2) (hAl : Sl itc w AA an ad al) (hen : en ≤ 1000000) (hen2 : en2 ≤ 1000000) (han : an ≤ 1000000) (hre : ∀ l, l ∈ ps → l.length * 56 ≤ 140737488351232) (hre2 : ∀ l, l ∈ ps2 → l.length * 56 ≤ 140737488351232) (lv : Int) (hc : c ≠ c2) :
    Calls Try.prog 14 #[.agg (scc c us (.slice EA en ec)).toArray, .agg (scc c2 us2 (.slice EA2 en2 ec2)).toArray, .int .i64 lv, .slice AA an ad] w fun e w' => ∃ us' A m d, e = .returned (.agg (scc c us' (.slice A m d)).toArray) ∧ PIn (fun _ => False) w' us' (psK (stTo c lv) ps 8) ∧ Sl enc_ w' A m d (es.filter fun e => stTo c lv e.th) ∧ Below w.heap.size w w' := by
  have hne : ∀ w, (binOp .neq 24 (.agg #[.int .i64 c2.lv, .int .i64 c2.th, .int .i64 c2.o0, .int .i64 c2.o1, .int .i64 c2.o2, .int .i64 c2.o3, .int .i64 c2.o4, .int .i64 c2.o5, .int .i64 c2.o6, .int .i64 c2.o7, .int .i64 c2.sl, .int .i64 c2.li, .int .i64 c2.ge, .int .i64 c2.qu]) (.agg #[.int .i64 c.lv, .int .i64 c.th, .int .i64 c.o0, .int .i64 c.o1, .int .i64 c.o2, .int .i64 c.o3, .int .i64 c.o4, .int .i64 c.o5, .int .i64 c.o6, .int .i64 c.o7, .int .i64 c.sl, .int .i64 c.li, .int .i64 c.ge, .int .i64 c.qu])).run Try.prog w = .ok (.bool true) w := fun w => (neF c2 c w).trans (by rw [decide_eq_false (fun e => hc e.symm)]; rfl)
  clear hc
  have h8 := hP.u8
  have h82 := hP2.u8
  have hi0 := info_scc (c := c) (us := us) (ev := .slice EA en ec) h8
  have hi1 := info_scc (c := c2) (us := us2) (ev := .slice EA2 en2 ec2) h82
  go_enter Try.func14, Try.ntmps14
  go_upto_region 1 with (fail)
  obtain ⟨W0, hW0, B0, B1, B2, kb, hz0⟩ : ∃ W0, ((w.alloc (.cells (scc c us (.slice EA en ec)).toArray 29)).alloc (.cells (scc c2 us2 (.slice EA2 en2 ec2)).toArray 29)).alloc (.cells #[.int .i64 0, .int .i64 0, .int .i64 0, .int .i64 0, .int .i64 0, .int .i64 0, .int .i64 0, .int .i64 0, .int .i64 0, .int .i64 0, .int .i64 0, .int .i64 0, .int .i64 0, .int .i64 0, .slice none 0 0, .slice none 0 0, .slice none 0 0, .slice none 0 0, .slice none 0 0, .slice none 0 0, .slice none 0 0, .slice none 0 0, .slice none 0 0] 29) = W0 ∧ Blk W0 w.heap.size 29 (scc c us (.slice EA en ec)).toArray ∧ Blk W0 (w.heap.size + 1) 29 (scc c2 us2 (.slice EA2 en2 ec2)).toArray ∧ Blk W0 (w.heap.size + 1 + 1) 29 (scc cf0 nil8 (.slice none 0 0)).toArray ∧ Below w.heap.size w W0 ∧ W0.heap.size = w.heap.size + 1 + 1 + 1 := ⟨_, rfl, ((Blk.new _ _ _).alloc _).alloc _, by have := (Blk.new (w.alloc (.cells (scc c us (.slice EA en ec)).toArray 29)) 29 (scc c2 us2 (.slice EA2 en2 ec2)).toArray).alloc (.cells #[.int .i64 0, .int .i64 0, .int .i64 0, .int .i64 0, .int .i64 0, .int .i64 0, .int .i64 0, .int .i64 0, .int .i64 0, .int .i64 0, .int .i64 0, .int .i64 0, .int .i64 0, .int .i64 0, .slice none 0 0, .slice none 0 0, .slice none 0 0, .slice none 0 0, .slice none 0 0, .slice none 0 0, .slice none 0 0, .slice none 0 0, .slice none 0 0] 29); rwa [World.size_alloc] at this, by have := Blk.new ((w.alloc (.cells (scc c us (.slice EA en ec)).toArray 29)).alloc (.cells (scc c2 us2 (.slice EA2 en2 ec2)).toArray 29)) 29 (scc cf0 nil8 (.slice none 0 0)).toArray; rw [World.size_alloc, World.size_alloc] at this; exact this, bnew (bnew (bnew (brefl w) _) _) _, by simp⟩
  rw [hW0]
  have HZ0 := Lib.hid hz0
  clear hW0 hz0 h8 h82
  have hc1 := to_fresh (w := W0) (c := c) lv (hP.below kb) (hE.below kb) hen hre
  have tok1 : True := trivial; have tok2 : True := trivial; have tok3 : True := trivial
  go_upto_region 2 with (first | (have _t := tok1; refine wpList_load_row (o := ⟨some 16, _, _, _, _, _⟩) rfl 29 (.tmp 4) rfl w.heap.size rfl 29 _ _ _ B0 Try.underlying29 rfl hi0 ?_; clear tok1 _t) | (have _t := tok2; go_at_call 9; refine hc1.mono ?_; rintro e w1 ⟨u1, A1, m1, d1, rfl, P1, S1, N1, hb1⟩; have hv1 := P1.u8; have hinf1 := info_scc (c := c) (us := u1) (ev := .slice A1 m1 d1) hv1; have hold1 : (scc cf0 nil8 (.slice none 0 0)).toArray.size = (scc c u1 (.slice A1 m1 d1)).toArray.size := (by rw [List.size_toArray, List.size_toArray, scc_len hv1, scc_len rfl]); have hone1 := scc_one (c := c) P1 A1 m1 d1; clear hv1 tok2 _t) | (have _t := tok3; refine wpList_store_row (o := ⟨none, .store 29 (.tmp 9) (.tmp 18), _, _, _, _⟩) rfl 29 (.tmp 9) (.tmp 18) rfl w1.heap.size _ rfl rfl 29 _ (Blk.new w1 _ _) hinf1 hold1 hone1 ?_; clear tok3 _t))
  have hz1 := hb1.size
  have kw1 := bnext kb hb1
  obtain ⟨W1, hW1, C0, C1, C2, C3, kk1, hzW1⟩ : ∃ W1, (w1.alloc (.cells #[.int .i64 0, .int .i64 0, .int .i64 0, .int .i64 0, .int .i64 0, .int .i64 0, .int .i64 0, .int .i64 0, .int .i64 0, .int .i64 0, .int .i64 0, .int .i64 0, .int .i64 0, .int .i64 0, .slice none 0 0, .slice none 0 0, .slice none 0 0, .slice none 0 0, .slice none 0 0, .slice none 0 0, .slice none 0 0, .slice none 0 0, .slice none 0 0] 29)).setRow w1.heap.size (scc c u1 (.slice A1 m1 d1)).toArray = W1 ∧ Blk W1 w.heap.size 29 (scc c us (.slice EA en ec)).toArray ∧ Blk W1 (w.heap.size + 1) 29 (scc c2 us2 (.slice EA2 en2 ec2)).toArray ∧ Blk W1 (w.heap.size + 1 + 1) 29 (scc cf0 nil8 (.slice none 0 0)).toArray ∧ Blk W1 w1.heap.size 29 (scc c u1 (.slice A1 m1 d1)).toArray ∧ Keeps (fun b => w1.heap.size ≤ b) w1 W1 ∧ W1.heap.size = w1.heap.size + 1 := by
    have kr := keeps_row (w1.alloc (.cells #[.int .i64 0, .int .i64 0, .int .i64 0, .int .i64 0, .int .i64 0, .int .i64 0, .int .i64 0, .int .i64 0, .int .i64 0, .int .i64 0, .int .i64 0, .int .i64 0, .int .i64 0, .int .i64 0, .slice none 0 0, .slice none 0 0, .slice none 0 0, .slice none 0 0, .slice none 0 0, .slice none 0 0, .slice none 0 0, .slice none 0 0, .slice none 0 0] 29)) w1.heap.size (scc c u1 (.slice A1 m1 d1)).toArray
    have l0 := (B0.below_ hb1).lt
    have l1 := (B1.below_ hb1).lt
    have l2 := (B2.below_ hb1).lt
    refine ⟨_, rfl, kr.blk ((B0.below_ hb1).alloc _) (by omega), kr.blk ((B1.below_ hb1).alloc _) (by omega), kr.blk ((B2.below_ hb1).alloc _) (by omega), (Blk.new w1 29 #[.int .i64 0, .int .i64 0, .int .i64 0, .int .i64 0, .int .i64 0, .int .i64 0, .int .i64 0, .int .i64 0, .int .i64 0, .int .i64 0, .int .i64 0, .int .i64 0, .int .i64 0, .int .i64 0, .slice none 0 0, .slice none 0 0, .slice none 0 0, .slice none 0 0, .slice none 0 0, .slice none 0 0, .slice none 0 0, .slice none 0 0, .slice none 0 0]).row _, ((Keeps.refl (fun b => w1.heap.size ≤ b) w1).alloc _).trans_ (kr.mono fun b h _ => by show _ ≤ _; omega), by simp [World.setRow]⟩
  have hq3 : w.heap.size + 1 + 1 < w1.heap.size := by have := HZ0.out; omega
  rw [hW1]
  clear hW1 B0 B1 B2 hc1 kb
  have HZW1 := Lib.hid hzW1
  clear hzW1
  have P1 := (P1.weak (S' := fun b => b < w.heap.size + 1 + 1 + 1) (fun b h => by have := HZ0.out; show b < _; omega)).or P1.old
  have P1 := P1.keeps (kk1.mono fun b h _ => .inr h)
  have S1o := S1
  have S1 := S1.keepS enc__len kk1 (fun _ ad _ hlt q => by omega) (by decide)
  have kb1 := kk1.below kw1 kw1.size (fun x hx _ => by omega)
  have r0 : W1.rangeAt w.heap.size 0 [.int .i64 c.lv, .int .i64 c.th, .int .i64 c.o0, .int .i64 c.o1, .int .i64 c.o2, .int .i64 c.o3, .int .i64 c.o4, .int .i64 c.o5, .int .i64 c.o6, .int .i64 c.o7, .int .i64 c.sl, .int .i64 c.li, .int .i64 c.ge, .int .i64 c.qu] := range_blk C0 0 (scc_conf c us _)
  have r1 : W1.rangeAt (w.heap.size + 1) 0 [.int .i64 c2.lv, .int .i64 c2.th, .int .i64 c2.o0, .int .i64 c2.o1, .int .i64 c2.o2, .int .i64 c2.o3, .int .i64 c2.o4, .int .i64 c2.o5, .int .i64 c2.o6, .int .i64 c2.o7, .int .i64 c2.sl, .int .i64 c2.li, .int .i64 c2.ge, .int .i64 c2.qu] := range_blk C1 0 (scc_conf c2 us2 _)
  have tok1 : True := trivial; have tok2 : True := trivial; have tok3 : True := trivial; have tok4 : True := trivial
  go_wp2_with (first | (have _t := tok1; refine wpList_load_mid (op := ⟨some 20, _, _, _, _, _⟩) rfl 24 (.tmp 19) rfl (w.heap.size + 1) 0 rfl [.int .i64 c2.lv, .int .i64 c2.th, .int .i64 c2.o0, .int .i64 c2.o1, .int .i64 c2.o2, .int .i64 c2.o3, .int .i64 c2.o4, .int .i64 c2.o5, .int .i64 c2.o6, .int .i64 c2.o7, .int .i64 c2.sl, .int .i64 c2.li, .int .i64 c2.ge, .int .i64 c2.qu] _ r1 Try.underlying24 rfl (by kernel_rfl) ?_; clear tok1 _t) | (have _t := tok2; refine wpList_load_mid (op := ⟨some 22, _, _, _, _, _⟩) rfl 24 (.tmp 21) rfl w.heap.size 0 rfl [.int .i64 c.lv, .int .i64 c.th, .int .i64 c.o0, .int .i64 c.o1, .int .i64 c.o2, .int .i64 c.o3, .int .i64 c.o4, .int .i64 c.o5, .int .i64 c.o6, .int .i64 c.o7, .int .i64 c.sl, .int .i64 c.li, .int .i64 c.ge, .int .i64 c.qu] _ r0 Try.underlying24 rfl (by kernel_rfl) ?_; clear tok2 _t) | (have _t := tok3; refine wpList_load_row (o := ⟨some 24, _, _, _, _, _⟩) rfl 29 (.tmp 9) rfl w1.heap.size rfl 29 _ _ _ C3 Try.underlying29 rfl hinf1 ?_; clear tok3 _t) | (have _t := tok4; refine wpList_store_row (o := ⟨none, .store 29 (.tmp 8) (.tmp 24), _, _, _, _⟩) rfl 29 (.tmp 8) (.tmp 24) rfl (w.heap.size + 1 + 1) _ rfl rfl 29 _ C2 hinf1 hold1 hone1 ?_; clear tok4 _t))
  have kr := keeps_row W1 (w.heap.size + 1 + 1) (scc c u1 (.slice A1 m1 d1)).toArray
  refine bodyPost_ret (v := .agg (scc c u1 (.slice A1 m1 d1)).toArray) (results_cell_row rfl _ _ (w.heap.size + 1 + 1) 29 _ _ _ rfl (C2.row _) Try.underlying29 rfl hinf1) rfl ⟨u1, A1, m1, d1, rfl, (P1.keeps (kr.mono fun b h _ => .inl (by show b < _; omega))).weak (fun b h => h.elim), S1.keepS enc__len kr (fun _ ad e _ q => by have := N1 ad e; have := HZ0.out; omega) (by decide), kr.below kb1 kb1.size (fun x hx _ => by omega)⟩
end Go.Proofs.Ytijffncgokcidaa
