/- Scripts, woven: the program's walk, where both have one configuration. -/
import Derived.Test.YtijffncgokcidaaPurgeL
namespace Go.Proofs.Ytijffncgokcidaa
set_option linter.unusedVariables false
set_option linter.unusedSimpArgs false
open Go.RowKit

set_option maxHeartbeats 4000000 in
set_option maxRecDepth 100000 in
theorem weave_b {w : World} {c : Cf} {us us2 : List Value} {ps ps2 : List (List CV)} {EA EA2 AA : Option Addr} {en ec en2 ec2 an ad : Nat} {es es2 : List En} {al : List Int} (hP : PIn (fun _ => False) w us ps) (hE : Sl enc_ w EA en ec es) (hP2 : PIn (fun _ => False) w us2 ps2) (hE2 : Sl enc_ w EA2 en2 ec2 es2) (hAl : Sl itc w AA an ad al) (hen : en ≤ 1000000) (hen2 : en2 ≤ 1000000) (han : an ≤ 1000000) (hre : ∀ l, l ∈ ps → l.length * 56 ≤ 140737488351232) (hre2 : ∀ l, l ∈ ps2 → l.length * 56 ≤ 140737488351232) (lv : Int) :
    Calls Try.prog 14 #[.agg (scc c us (.slice EA en ec)).toArray, .agg (scc c us2 (.slice EA2 en2 ec2)).toArray, .int .i64 lv, .slice AA an ad] w fun e w' => ∃ us' A m d, e = .returned (.agg (scc c us' (.slice A m d)).toArray) ∧ PIn (fun _ => False) w' us' (wvP c ps ps2 lv) ∧ Sl enc_ w' A m d (wvE c es es2 lv al) ∧ Below w.heap.size w w' := by
  obtain ⟨i1, E2x⟩ := elem_en
  have hne : ∀ w, (binOp .neq 24 (.agg #[.int .i64 c.lv, .int .i64 c.th, .int .i64 c.o0, .int .i64 c.o1, .int .i64 c.o2, .int .i64 c.o3, .int .i64 c.o4, .int .i64 c.o5, .int .i64 c.o6, .int .i64 c.o7, .int .i64 c.sl, .int .i64 c.li, .int .i64 c.ge, .int .i64 c.qu]) (.agg #[.int .i64 c.lv, .int .i64 c.th, .int .i64 c.o0, .int .i64 c.o1, .int .i64 c.o2, .int .i64 c.o3, .int .i64 c.o4, .int .i64 c.o5, .int .i64 c.o6, .int .i64 c.o7, .int .i64 c.sl, .int .i64 c.li, .int .i64 c.ge, .int .i64 c.qu])).run Try.prog w = .ok (.bool false) w := fun w => (neF c c w).trans (by rw [decide_eq_true rfl]; rfl)
  have h8 := hP.u8
  have h82 := hP2.u8
  have hi0 := info_scc (c := c) (us := us) (ev := .slice EA en ec) h8
  have hi1 := info_scc (c := c) (us := us2) (ev := .slice EA2 en2 ec2) h82
  go_enter Try.func14, Try.ntmps14
  go_upto_region 1 with (fail)
  obtain ⟨W0, hW0, B0, B1, B2, kb, hz0⟩ : ∃ W0, ((w.alloc (.cells (scc c us (.slice EA en ec)).toArray 29)).alloc (.cells (scc c us2 (.slice EA2 en2 ec2)).toArray 29)).alloc (.cells #[.int .i64 0, .int .i64 0, .int .i64 0, .int .i64 0, .int .i64 0, .int .i64 0, .int .i64 0, .int .i64 0, .int .i64 0, .int .i64 0, .int .i64 0, .int .i64 0, .int .i64 0, .int .i64 0, .slice none 0 0, .slice none 0 0, .slice none 0 0, .slice none 0 0, .slice none 0 0, .slice none 0 0, .slice none 0 0, .slice none 0 0, .slice none 0 0] 29) = W0 ∧ Blk W0 w.heap.size 29 (scc c us (.slice EA en ec)).toArray ∧ Blk W0 (w.heap.size + 1) 29 (scc c us2 (.slice EA2 en2 ec2)).toArray ∧ Blk W0 (w.heap.size + 1 + 1) 29 (scc cf0 nil8 (.slice none 0 0)).toArray ∧ Below w.heap.size w W0 ∧ W0.heap.size = w.heap.size + 1 + 1 + 1 := ⟨_, rfl, ((Blk.new _ _ _).alloc _).alloc _, by have := (Blk.new (w.alloc (.cells (scc c us (.slice EA en ec)).toArray 29)) 29 (scc c us2 (.slice EA2 en2 ec2)).toArray).alloc (.cells #[.int .i64 0, .int .i64 0, .int .i64 0, .int .i64 0, .int .i64 0, .int .i64 0, .int .i64 0, .int .i64 0, .int .i64 0, .int .i64 0, .int .i64 0, .int .i64 0, .int .i64 0, .int .i64 0, .slice none 0 0, .slice none 0 0, .slice none 0 0, .slice none 0 0, .slice none 0 0, .slice none 0 0, .slice none 0 0, .slice none 0 0, .slice none 0 0] 29); rwa [World.size_alloc] at this, by have := Blk.new ((w.alloc (.cells (scc c us (.slice EA en ec)).toArray 29)).alloc (.cells (scc c us2 (.slice EA2 en2 ec2)).toArray 29)) 29 (scc cf0 nil8 (.slice none 0 0)).toArray; rw [World.size_alloc, World.size_alloc] at this; exact this, bnew (bnew (bnew (brefl w) _) _) _, by simp⟩
  rw [hW0]
  have HZ0 := Lib.hid hz0
  clear hW0 hz0 h8 h82
  have hc1 := to_fresh (w := W0) (c := c) lv (hP.below kb) (hE.below kb) hen hre
  have tok1 : True := trivial; have tok2 : True := trivial; have tok3 : True := trivial
  go_upto_region 2 with (first | (have _t := tok1; refine wpList_load_row (o := ⟨some 16, _, _, _, _, _⟩) rfl 29 (.tmp 4) rfl w.heap.size rfl 29 _ _ _ B0 Try.underlying29 rfl hi0 ?_; clear tok1 _t) | (have _t := tok2; go_at_call 9; refine hc1.mono ?_; rintro e w1 ⟨u1, A1, m1, d1, rfl, P1, S1, N1, hb1⟩; have hv1 := P1.u8; have hinf1 := info_scc (c := c) (us := u1) (ev := .slice A1 m1 d1) hv1; have hold1 : (scc cf0 nil8 (.slice none 0 0)).toArray.size = (scc c u1 (.slice A1 m1 d1)).toArray.size := (by rw [List.size_toArray, List.size_toArray, scc_len hv1, scc_len rfl]); have hone1 := scc_one (c := c) P1 A1 m1 d1; clear hv1 tok2 _t) | (have _t := tok3; refine wpList_store_row (o := ⟨none, .store 29 (.tmp 9) (.tmp 18), _, _, _, _⟩) rfl 29 (.tmp 9) (.tmp 18) rfl w1.heap.size _ rfl rfl 29 _ (Blk.new w1 _ _) hinf1 hold1 hone1 ?_; clear tok3 _t))
  have hz1 := hb1.size
  have kw1 := bnext kb hb1
  obtain ⟨W1, hW1, C0, C1, C2, C3, kk1, hzW1⟩ : ∃ W1, (w1.alloc (.cells #[.int .i64 0, .int .i64 0, .int .i64 0, .int .i64 0, .int .i64 0, .int .i64 0, .int .i64 0, .int .i64 0, .int .i64 0, .int .i64 0, .int .i64 0, .int .i64 0, .int .i64 0, .int .i64 0, .slice none 0 0, .slice none 0 0, .slice none 0 0, .slice none 0 0, .slice none 0 0, .slice none 0 0, .slice none 0 0, .slice none 0 0, .slice none 0 0] 29)).setRow w1.heap.size (scc c u1 (.slice A1 m1 d1)).toArray = W1 ∧ Blk W1 w.heap.size 29 (scc c us (.slice EA en ec)).toArray ∧ Blk W1 (w.heap.size + 1) 29 (scc c us2 (.slice EA2 en2 ec2)).toArray ∧ Blk W1 (w.heap.size + 1 + 1) 29 (scc cf0 nil8 (.slice none 0 0)).toArray ∧ Blk W1 w1.heap.size 29 (scc c u1 (.slice A1 m1 d1)).toArray ∧ Keeps (fun b => w1.heap.size ≤ b) w1 W1 ∧ W1.heap.size = w1.heap.size + 1 := by
    have kr := keeps_row (w1.alloc (.cells #[.int .i64 0, .int .i64 0, .int .i64 0, .int .i64 0, .int .i64 0, .int .i64 0, .int .i64 0, .int .i64 0, .int .i64 0, .int .i64 0, .int .i64 0, .int .i64 0, .int .i64 0, .int .i64 0, .slice none 0 0, .slice none 0 0, .slice none 0 0, .slice none 0 0, .slice none 0 0, .slice none 0 0, .slice none 0 0, .slice none 0 0, .slice none 0 0] 29)) w1.heap.size (scc c u1 (.slice A1 m1 d1)).toArray
    have l0 := (B0.below_ hb1).lt
    have l1 := (B1.below_ hb1).lt
    have l2 := (B2.below_ hb1).lt
    refine ⟨_, rfl, kr.blk ((B0.below_ hb1).alloc _) (by omega), kr.blk ((B1.below_ hb1).alloc _) (by omega), kr.blk ((B2.below_ hb1).alloc _) (by omega), (Blk.new w1 29 #[.int .i64 0, .int .i64 0, .int .i64 0, .int .i64 0, .int .i64 0, .int .i64 0, .int .i64 0, .int .i64 0, .int .i64 0, .int .i64 0, .int .i64 0, .int .i64 0, .int .i64 0, .int .i64 0, .slice none 0 0, .slice none 0 0, .slice none 0 0, .slice none 0 0, .slice none 0 0, .slice none 0 0, .slice none 0 0, .slice none 0 0, .slice none 0 0]).row _, ((Keeps.refl (fun b => w1.heap.size ≤ b) w1).alloc _).trans_ (kr.mono fun b h _ => by show _ ≤ _; omega), by simp [World.setRow]⟩
  have hq3 : w.heap.size + 1 + 1 < w1.heap.size := by have := HZ0.out; omega
  rw [hW1]
  clear hW1 B0 B1 B2 hc1 kb
  have HZW1 := Lib.hid hzW1
  clear hzW1
  have P1 := (P1.weak (S' := fun b => b < w.heap.size + 1 + 1 + 1) (fun b h => by have := HZ0.out; show b < _; omega)).or P1.old
  have P1 := P1.keeps (kk1.mono fun b h _ => .inr h)
  have S1o := S1
  have S1 := S1.keepS enc__len kk1 (fun _ ad _ hlt q => by omega) (by decide)
  have kb1 := kk1.below kw1 kw1.size (fun x hx _ => by omega)
  have r0 : W1.rangeAt w.heap.size 0 [.int .i64 c.lv, .int .i64 c.th, .int .i64 c.o0, .int .i64 c.o1, .int .i64 c.o2, .int .i64 c.o3, .int .i64 c.o4, .int .i64 c.o5, .int .i64 c.o6, .int .i64 c.o7, .int .i64 c.sl, .int .i64 c.li, .int .i64 c.ge, .int .i64 c.qu] := range_blk C0 0 (scc_conf c us _)
  have r1 : W1.rangeAt (w.heap.size + 1) 0 [.int .i64 c.lv, .int .i64 c.th, .int .i64 c.o0, .int .i64 c.o1, .int .i64 c.o2, .int .i64 c.o3, .int .i64 c.o4, .int .i64 c.o5, .int .i64 c.o6, .int .i64 c.o7, .int .i64 c.sl, .int .i64 c.li, .int .i64 c.ge, .int .i64 c.qu] := range_blk C1 0 (scc_conf c us2 _)
  have hi1' := hi1
  have hc2 := abv_fresh (w := W1) (c := c) lv (hP2.below kb1) (hE2.below kb1) hen2 hre2
  have tok1 : True := trivial; have tok2 : True := trivial; have tok3 : True := trivial; have tok4 : True := trivial; have tok5 : True := trivial
  go_upto_region 5 with (first | (have _t := tok1; refine wpList_load_mid (op := ⟨some 20, _, _, _, _, _⟩) rfl 24 (.tmp 19) rfl (w.heap.size + 1) 0 rfl [.int .i64 c.lv, .int .i64 c.th, .int .i64 c.o0, .int .i64 c.o1, .int .i64 c.o2, .int .i64 c.o3, .int .i64 c.o4, .int .i64 c.o5, .int .i64 c.o6, .int .i64 c.o7, .int .i64 c.sl, .int .i64 c.li, .int .i64 c.ge, .int .i64 c.qu] _ r1 Try.underlying24 rfl (by kernel_rfl) ?_; clear tok1 _t) | (have _t := tok2; refine wpList_load_mid (op := ⟨some 22, _, _, _, _, _⟩) rfl 24 (.tmp 21) rfl w.heap.size 0 rfl [.int .i64 c.lv, .int .i64 c.th, .int .i64 c.o0, .int .i64 c.o1, .int .i64 c.o2, .int .i64 c.o3, .int .i64 c.o4, .int .i64 c.o5, .int .i64 c.o6, .int .i64 c.o7, .int .i64 c.sl, .int .i64 c.li, .int .i64 c.ge, .int .i64 c.qu] _ r0 Try.underlying24 rfl (by kernel_rfl) ?_; clear tok2 _t) | (have _t := tok3; refine wpList_load_row (o := ⟨some 25, _, _, _, _, _⟩) rfl 29 (.tmp 5) rfl (w.heap.size + 1) rfl 29 _ _ _ C1 Try.underlying29 rfl hi1 ?_; clear tok3 _t) | (have _t := tok4; go_at_call 11; refine hc2.mono ?_; rintro e w2 ⟨u2, A2, m2, d2, rfl, P2, S2, N2, hb2⟩; have hv2 := P2.u8; have hinf2 := info_scc (c := c) (us := u2) (ev := .slice A2 m2 d2) hv2; have hold2 : (scc cf0 nil8 (.slice none 0 0)).toArray.size = (scc c u2 (.slice A2 m2 d2)).toArray.size := (by rw [List.size_toArray, List.size_toArray, scc_len hv2, scc_len rfl]); have hone2 := scc_one (c := c) P2 A2 m2 d2; clear hv2 tok4 _t) | (have _t := tok5; refine wpList_store_row (o := ⟨none, .store 29 (.tmp 10) (.tmp 27), _, _, _, _⟩) rfl 29 (.tmp 10) (.tmp 27) rfl w2.heap.size _ rfl rfl 29 _ (Blk.new w2 _ _) hinf2 hold2 hone2 ?_; clear tok5 _t))
  have hz2 := hb2.size
  have kw2 := bnext kb1 hb2
  obtain ⟨W2, hW2, D2, D3, D4, kk2⟩ : ∃ W2, (w2.alloc (.cells #[.int .i64 0, .int .i64 0, .int .i64 0, .int .i64 0, .int .i64 0, .int .i64 0, .int .i64 0, .int .i64 0, .int .i64 0, .int .i64 0, .int .i64 0, .int .i64 0, .int .i64 0, .int .i64 0, .slice none 0 0, .slice none 0 0, .slice none 0 0, .slice none 0 0, .slice none 0 0, .slice none 0 0, .slice none 0 0, .slice none 0 0, .slice none 0 0] 29)).setRow w2.heap.size (scc c u2 (.slice A2 m2 d2)).toArray = W2 ∧ Blk W2 (w.heap.size + 1 + 1) 29 (scc cf0 nil8 (.slice none 0 0)).toArray ∧ Blk W2 w1.heap.size 29 (scc c u1 (.slice A1 m1 d1)).toArray ∧ Blk W2 w2.heap.size 29 (scc c u2 (.slice A2 m2 d2)).toArray ∧ Keeps (fun b => w2.heap.size ≤ b) w2 W2 := by
    have kr := keeps_row (w2.alloc (.cells #[.int .i64 0, .int .i64 0, .int .i64 0, .int .i64 0, .int .i64 0, .int .i64 0, .int .i64 0, .int .i64 0, .int .i64 0, .int .i64 0, .int .i64 0, .int .i64 0, .int .i64 0, .int .i64 0, .slice none 0 0, .slice none 0 0, .slice none 0 0, .slice none 0 0, .slice none 0 0, .slice none 0 0, .slice none 0 0, .slice none 0 0, .slice none 0 0] 29)) w2.heap.size (scc c u2 (.slice A2 m2 d2)).toArray
    have l2 := (C2.below_ hb2).lt
    have l3 := (C3.below_ hb2).lt
    exact ⟨_, rfl, kr.blk ((C2.below_ hb2).alloc _) (by omega), kr.blk ((C3.below_ hb2).alloc _) (by omega), (Blk.new w2 29 #[.int .i64 0, .int .i64 0, .int .i64 0, .int .i64 0, .int .i64 0, .int .i64 0, .int .i64 0, .int .i64 0, .int .i64 0, .int .i64 0, .int .i64 0, .int .i64 0, .int .i64 0, .int .i64 0, .slice none 0 0, .slice none 0 0, .slice none 0 0, .slice none 0 0, .slice none 0 0, .slice none 0 0, .slice none 0 0, .slice none 0 0, .slice none 0 0]).row _, ((Keeps.refl (fun b => w2.heap.size ≤ b) w2).alloc _).trans_ (kr.mono fun b h _ => by show _ ≤ _; omega)⟩
  rw [hW2]
  have hq1 : w1.heap.size < w2.heap.size := by have := HZW1.out; omega
  have P1 := ((P1.below hb2).keeps (kk2.mono fun b h _ => .inr (by omega))).weak (S' := (fun b => b < w.heap.size + 1 + 1 + 1 ∨ b = w1.heap.size ∨ w2.heap.size ≤ b)) (fun b h => by omega)
  have P2 := ((P2.weak (S' := fun b => b < W1.heap.size) (fun b h => by omega)).or P2.old).keeps (kk2.mono fun b h _ => .inr h)
  have P2 := P2.weak (S' := (fun b => b < w.heap.size + 1 + 1 + 1 ∨ b = w1.heap.size ∨ w2.heap.size ≤ b)) (fun b h => by have := HZW1.out; omega)
  have S1 := (S1.below hb2).keepS enc__len kk2 (fun _ ad _ hlt q => by omega) (by decide)
  have S2 := S2.keepS enc__len kk2 (fun _ ad _ hlt q => by omega) (by decide)
  have kb2 := kk2.below kw2 kw2.size (fun x hx _ => by omega)
  have HA1 : Hid (∀ l : List En, Sl enc_ w1 A1 m1 d1 l → l ≠ [] → ∀ ad, A1 = some ad → ad.block < w1.heap.size) := fun l h hne => h.rd.lt (by
    intro e
    have := congrArg List.length e
    rw [flat_len enc__len] at this
    simp at this
    first | exact hne this | exact hne (List.eq_nil_of_length_eq_zero (by omega)))
  have hA1 := HA1.out _ S1o
  have hA2 : ∀ ad, A2 = some ad → w1.heap.size < ad.block := fun ad e => by have := N2 ad e; have := HZW1.out; omega
  have hAl0 : al ≠ [] → ∀ ad, AA = some ad → ad.block < w.heap.size := fun hne => hAl.rd.lt (by
    intro e
    have := congrArg List.length e
    rw [flat_len itc_len] at this
    simp at this
    first | exact hne this | exact hne (List.eq_nil_of_length_eq_zero (by omega)))
  have hAl2 := hAl.below kb2
  have P2u8 := Lib.hid P2.u8
  have hm1 : m1 ≤ 1000000 := filt_le S1 hE hen
  have hm2 : m2 ≤ 1000000 := filt_le S2 hE2 hen2
  have HZ0' := HZ0
  clear hW2 C0 C1 C2 C3 hb2 hc2 hi0 hi1 hi1' hinf1 hold1 hone1 hinf2 hold2 hone2 S1o N1 N2 HA1 hne r0 r1 kw1 kw2 kb1 hb1 kk1 kk2 hP hP2 hE hE2 hAl
  generalize Value.agg #[.int .i64 c.lv, .int .i64 c.th, .int .i64 c.o0, .int .i64 c.o1, .int .i64 c.o2, .int .i64 c.o3, .int .i64 c.o4, .int .i64 c.o5, .int .i64 c.o6, .int .i64 c.o7, .int .i64 c.sl, .int .i64 c.li, .int .i64 c.ge, .int .i64 c.qu] = V20
  generalize Value.agg (scc c us (.slice EA en ec)).toArray = V0
  generalize Value.agg (scc c us2 (.slice EA2 en2 ec2)).toArray = V1
  generalize Value.agg (scc c u1 (.slice A1 m1 d1)).toArray = V18
  generalize Value.agg (scc c u2 (.slice A2 m2 d2)).toArray = V27
  go_wp2_with fail
  go_loopg [28] 8 (fun gk i wr => ∃ (k : Nat) (vs : List Value), k + gk = 8 ∧ i = .int .i64 k ∧ Blk wr (w.heap.size + 1 + 1) 29 (scc cf0 nil8 (.slice none 0 0)).toArray ∧ Blk wr w1.heap.size 29 (scc c vs (.slice A1 m1 d1)).toArray ∧ Blk wr w2.heap.size 29 (scc c u2 (.slice A2 m2 d2)).toArray ∧ PIn (fun b => b < w.heap.size + 1 + 1 + 1 ∨ b = w1.heap.size ∨ w2.heap.size ≤ b) wr vs (psW (stAb c lv) (psK (stTo c lv) ps 8) (psK (stAb c lv) ps2 8) k) ∧ Keeps (fun b => b = w1.heap.size) W2 wr)
  case atStart => exact ⟨0, u1, by omega, rfl, D2, D3, D4, by rw [psW_zero _ _ _ (psK_len _ _ _)]; exact P1, Keeps.refl _ _⟩
  case round =>
    clear D2 D3 D4 P1
    obtain ⟨k, vs, hk, rfl, D2, D3, D4, P3, kk⟩ := hrel
    by_cases hlt : k < 8
    · obtain ⟨l, hl⟩ : ∃ l, (psK (stAb c lv) ps2 8)[k]? = some l := ⟨(psK (stAb c lv) ps2 8)[k]'(by rw [psK_len]; exact hlt), List.getElem?_eq_getElem (i := k) _⟩
      have P2r := P2.keeps (kk.mono fun b h _ => .inr (.inl h))
      obtain ⟨A, n, c', hu, hs, hA⟩ := P2r.at_ k l hl
      have b0 : (0 : Int) ≤ (k : Int) := by omega
      have b1 : (k : Int) < 8 := by omega
      have hcall := above_any c vs (.slice A1 m1 d1) (k : Int) lv wr
      have hinf3 := info_scc (c := c) (us := vs) (ev := .slice A1 m1 d1) P3.u8
      have HL : Hid ((psK (stAb c lv) ps2 8).getD k [] = l) := by rw [Hid, List.getD_eq_getElem?_getD, hl]; rfl
      have HV8 := Lib.hid P3.u8
      have HU := Lib.hid hu
      clear hu hl
      have tok1 : True := trivial
      cases hk0 : abB c (k : Int) lv with
      | false =>
        rw [hk0] at hcall
        have HK : Hid (stAb c lv (k : Int) = false) := hk0
        clear hk0
        go_wp2_with (first | (have _t := tok1; refine wpList_load_row (o := ⟨some 31, _, _, _, _, _⟩) rfl 29 (.tmp 9) rfl w1.heap.size rfl 29 _ _ _ D3 Try.underlying29 rfl hinf3 ?_; clear tok1 _t) | (go_at_call 19; refine hcall.mono ?_; rintro e wa ⟨rfl, hba⟩))
        go_roundg (gk - 1)
        case measure => omega
        case rel => exact ⟨k + 1, vs, by omega, by go_num, D2.below_ hba, D3.below_ hba, D4.below_ hba, by rw [psW_no _ _ _ _ HK.out]; exact P3.below hba, kk.trans_ (Keeps.of_below (S := fun b => b = w1.heap.size) hba)⟩
      | true =>
        rw [hk0] at hcall
        have HK : Hid (stAb c lv (k : Int) = true) := hk0
        clear hk0
        go_upto_region 9 with (first | (have _t := tok1; refine wpList_load_row (o := ⟨some 31, _, _, _, _, _⟩) rfl 29 (.tmp 9) rfl w1.heap.size rfl 29 _ _ _ D3 Try.underlying29 rfl hinf3 ?_; clear tok1 _t) | (go_at_call 19; refine hcall.mono ?_; rintro e wa ⟨rfl, hba⟩))
        have G2 := D2.below_ hba
        have G3 := D3.below_ hba
        have G4 := D4.below_ hba
        have P4 := P3.below hba
        have kka := kk.trans_ (Keeps.of_below (S := fun b => b = w1.heap.size) hba)
        have v4 : wa.cell? ⟨w2.heap.size, 14 + k, none⟩ = some (.slice A n c') := (G4.cell _).trans (by rw [List.getElem?_toArray]; exact scc_get HU.out)
        obtain ⟨u8, v8⟩ : ∃ u, wa.cell? ⟨w1.heap.size, 14 + k, none⟩ = some u := ⟨_, (G3.cell _).trans (by rw [List.getElem?_toArray]; exact scc_get (List.getElem?_eq_getElem (by rw [HV8.out]; exact hlt)))⟩
        have f8 := G3.frozen (14 + k)
        have z4 := G4.lt
        have z3 := G3.lt
        have hsa := hs.below hba
        clear hcall D2 D3 D4 P3 kk hba hinf3 hs P2r
        go_wp2_with fail
        go_roundg (gk - 1)
        case measure => omega
        case rel =>
          refine ⟨k + 1, vs.set k (.slice A n c'), by omega, by go_num, G2.far (p := ⟨w1.heap.size, 14 + k, none⟩) (by dsimp only; omega) _, ?_, G4.far (p := ⟨w1.heap.size, 14 + k, none⟩) (by dsimp only; omega) _, ?_, kka.setCell (p := ⟨w1.heap.size, 14 + k, none⟩) (fun _ => rfl) _⟩
          · rw [← scc_set (by rw [HV8.out]; exact hlt), ← List.setIfInBounds_toArray]
            exact G3.set_ _ _
          · have k8 : Keeps (fun b => b < w.heap.size + 1 + 1 + 1 ∨ b = w1.heap.size ∨ w2.heap.size ≤ b) wa (wa.setCell ⟨w1.heap.size, 14 + k, none⟩ (.slice A n c')) := (Keeps.refl _ wa).setCell (p := ⟨w1.heap.size, 14 + k, none⟩) (fun _ => .inr (.inl rfl)) _
            refine PIn.putW (P4.keeps k8) hlt HK.out ?_ ?_
            · rw [HL.out]
              by_cases he : l = []
              · subst he
                exact ⟨hsa.len, hsa.cap, Rd.nil _ _, hsa.nil_⟩
              · exact k8.sl hsa (fun ad e => hA ad e he)
            · rw [HL.out]
              exact hA
    · have hge : ¬ ((k : Int) < 8) := by omega
      obtain rfl : k = 8 := by omega
      have S1 := S1.keepS enc__len kk (fun hne ad e _ q => by have := hA1 hne ad e; omega) (by decide)
      have S2 := S2.keepS enc__len kk (fun _ ad e _ q => by have := hA2 ad e; omega) (by decide)
      have hAl := hAl2.keepS itc_len kk (fun hne ad e _ q => by have := hAl0 hne ad e; omega) (by decide)
      have kbw := kk.below kb2 kb2.size (fun x hx _ => by omega)
      have c3 : wr.cell? ⟨w1.heap.size, 22, none⟩ = some (.slice A1 m1 d1) := (D3.cell 22).trans (by rw [List.getElem?_toArray]; exact scc_last P3.u8)
      have f3 := D3.frozen 22
      have z3 := D3.lt
      clear hlt hk hge P1 P2 hAl2 kk kb2
      go_upto_region 14 with (fail)
      obtain ⟨W4, hW4, st0, E2b, E4, P4, S1w, S2w, hAlw, kb4, hs34⟩ : ∃ W4, wr.setCell ⟨w1.heap.size, 22, none⟩ (.slice none 0 0) = W4 ∧ WSt W4 w1.heap.size c vs [] none 0 0 W4 ∧ Blk W4 (w.heap.size + 1 + 1) 29 (scc cf0 nil8 (.slice none 0 0)).toArray ∧ Blk W4 w2.heap.size 29 (scc c u2 (.slice A2 m2 d2)).toArray ∧ PIn (fun b => (fun b => b < w.heap.size + 1 + 1 + 1 ∨ b = w1.heap.size ∨ w2.heap.size ≤ b) b ∨ W4.heap.size ≤ b) W4 vs (psW (stAb c lv) (psK (stTo c lv) ps 8) (psK (stAb c lv) ps2 8) 8) ∧ Sl enc_ W4 A1 m1 d1 (es.filter fun e => stTo c lv e.th) ∧ Sl enc_ W4 A2 m2 d2 (es2.filter fun e => stAb c lv e.th) ∧ Sl itc W4 AA an ad al ∧ Below w.heap.size w W4 ∧ w1.heap.size < W4.heap.size := by
        have k4 : Keeps (fun b => b = w1.heap.size) wr (wr.setCell ⟨w1.heap.size, 22, none⟩ (.slice none 0 0)) := (Keeps.refl (fun b => b = w1.heap.size) wr).setCell (p := ⟨w1.heap.size, 22, none⟩) (fun _ => rfl) _
        refine ⟨_, rfl, ⟨P3.u8, World.ownsRow_nil _ _ _ _, ?_, Keeps.refl _ _⟩, k4.blk D2 (by omega), k4.blk D4 (by omega), (P3.keeps (k4.mono fun b h _ => .inr (.inl h))).or (P3.keeps (k4.mono fun b h _ => .inr (.inl h))).old, S1.keepS enc__len k4 (fun hne ad e _ q => by have := hA1 hne ad e; omega) (by decide), S2.keepS enc__len k4 (fun _ ad e _ q => by have := hA2 ad e; omega) (by decide), hAl.keepS itc_len k4 (fun hne ad e _ q => by have := hAl0 hne ad e; omega) (by decide), k4.below kbw kbw.size (fun x hx _ => by omega), Nat.lt_of_lt_of_le z3 k4.size⟩
        rw [← scc_setl P3.u8, ← List.setIfInBounds_toArray]
        exact D3.set_ _ _
      rw [hW4]
      have c4 : W4.cell? ⟨w2.heap.size, 22, none⟩ = some (.slice A2 m2 d2) := (E4.cell 22).trans (by rw [List.getElem?_toArray]; exact scc_last P2u8.out)
      have z4 := E4.lt
      clear hW4 D2 D3 D4 P3 S1 S2 hAl kbw c3 f3 z3
      go_wp2_with fail
      clear c4 z4
      obtain ⟨PW, HPW⟩ : ∃ PW, Hid (psW (stAb c lv) (psK (stTo c lv) ps 8) (psK (stAb c lv) ps2 8) 8 = PW) := ⟨_, rfl⟩
      obtain ⟨E1, HE1⟩ : ∃ E1, Hid ((es.filter fun e => stTo c lv e.th) = E1) := ⟨_, rfl⟩
      obtain ⟨E2, HE2'⟩ : ∃ E2, Hid ((es2.filter fun e => stAb c lv e.th) = E2) := ⟨_, rfl⟩
      rw [HPW.out] at P4
      rw [HE1.out] at S1w
      rw [HE2'.out] at S2w
      have hA1' : E1 ≠ [] → ∀ ad, A1 = some ad → ad.block < w1.heap.size := by rw [← HE1.out]; exact hA1
      have hl1 := Lib.hid S1w.len
      have hl2 := Lib.hid S2w.len
      have hl3 := Lib.hid hAlw.len
      go_loopg [13, 49] m2 (fun gk dn i wr => ∃ (k j m : Nat) (A' : Option Addr) (c' : Nat) (out : List En), k + gk = m2 ∧ i = .int .i64 k ∧ dn = .int .i64 j ∧ j ≤ m1 ∧ m ≤ j + k ∧ Hid (out ++ mg al E1 E2 j k = mg al E1 E2 0 0) ∧ WSt W4 w1.heap.size c vs out A' m c' wr)
      case atStart => exact ⟨0, 0, 0, none, 0, [], by omega, rfl, rfl, by omega, by omega, rfl, st0⟩
      case round =>
        clear st0
        obtain ⟨k, j, m, A', c', out, hk, rfl, rfl, hjm, hmj, hmg, st⟩ := hrel
        obtain ⟨gr, hgr⟩ : ∃ g, g = gk := ⟨_, rfl⟩
        subst hgr
        by_cases hlt : k < m2
        · have S2r := S2w.keepS enc__len st.kk (fun _ ad e hlt q => by have := hA2 ad e; omega) (by decide)
          obtain ⟨b2, o2, rfl, hb2w, _⟩ := S2w.base enc__len (by decide) (by omega)
          obtain ⟨e2, he2⟩ : ∃ e, E2[k]? = some e := ⟨E2[k]'(by have := hl2.out; omega), List.getElem?_eq_getElem (i := k) _⟩
          have hrg : wr.rangeAt b2 (o2 + k * 2) [.int .i64 e2.th, .int .i64 e2.wh] := range_sl enc__len S2r he2
          have b0 : (0 : Int) ≤ (k : Int) := by omega
          have b1 : (k : Int) < (m2 : Int) := by omega
          have HE2 := Lib.hid he2
          have hWz := st.kk.size
          clear he2 S2r
          have tok1 : True := trivial
          go_upto_region 17 with (have _t := tok1; refine wpList_load_mid (op := ⟨some 53, _, _, _, _, _⟩) rfl 42 (.tmp 52) rfl b2 (o2 + k * 2) rfl [.int .i64 e2.th, .int .i64 e2.wh] _ hrg Try.underlying42 rfl (by kernel_rfl) ?_; clear tok1 _t)
          have HOX : Hid (∀ kk, (Value.slice A' m c').ownBlock = some kk → kk ≠ wr.heap.size) := fun kk hkk => by have := own_ltb st.own kk hkk; omega
          obtain ⟨W5, hW5, Bx, st⟩ : ∃ W5, wr.alloc (.cells #[.int .i64 e2.th, .int .i64 e2.wh] 42) = W5 ∧ Blk W5 wr.heap.size 42 #[.int .i64 e2.th, .int .i64 e2.wh] ∧ WSt W4 w1.heap.size c vs out A' m c' W5 := ⟨_, rfl, Blk.new _ _ _, st.alloc _⟩
          rw [hW5]
          clear hW5 hrg
          generalize wr.heap.size = x at *
          by_cases hka : k < an
          · have b2k : (k : Int) < (an : Int) := by omega
            obtain ⟨b3, o3, rfl, hb3w, hc3⟩ := hAlw.base itc_len (by decide) (by omega)
            obtain ⟨a, ha⟩ : ∃ a, al[k]? = some a := ⟨al[k]'(by have := hl3.out; omega), List.getElem?_eq_getElem (i := k) _⟩
            have ca0 : W4.cell? ⟨b3, o3 + k, none⟩ = some (.int .i64 a) := by have h0 := hc3 k a 0 _ ha rfl; simpa using h0
            have hb3n : b3 ≠ w1.heap.size := by have := hAl0 (by intro e; rw [e] at ha; simp at ha) _ rfl; dsimp only at this; omega
            have HA := Lib.hid ha
            clear ha hc3
            go_wp2_with fail
            go_loopg [13] (m1 - j) (fun gi dn wr => ∃ (j m : Nat) (A' : Option Addr) (c' : Nat) (out : List En), j + gi = m1 ∧ dn = .int .i64 j ∧ m ≤ j + k ∧ Hid (out ++ mg al E1 E2 j k = mg al E1 E2 0 0) ∧ WSt W4 w1.heap.size c vs out A' m c' wr ∧ Blk wr x 42 #[.int .i64 e2.th, .int .i64 e2.wh] ∧ Hid (∀ kk, (Value.slice A' m c').ownBlock = some kk → kk ≠ x))
            case atStart => exact ⟨j, m, A', c', out, by omega, rfl, hmj, hmg, st, Bx, HOX⟩
            case round =>
              clear st Bx hmj hmg hjm HOX
              obtain ⟨j, m, A', c', out, hj, rfl, hmj, hmg, st, Bx, HOX⟩ := hrel
              have hjm : j ≤ m1 := by omega
              have ca := st.kk.cell ca0 (fun q => by rcases q with q | q <;> omega)
              have j0 : (0 : Int) ≤ (j : Int) := by omega
              by_cases hja : (j : Int) < a
              · by_cases hjx : j < m1
                · have j1 : (j : Int) < (m1 : Int) := by omega
                  have S1r := S1w.keepS enc__len st.kk (fun hne ad e hlt q => by have := hA1' hne ad e; omega) (by decide)
                  obtain ⟨b1, o1, rfl, hb1w, _⟩ := S1w.base enc__len (by decide) (by omega)
                  obtain ⟨e1, he1⟩ : ∃ e, E1[j]? = some e := ⟨E1[j]'(by have := hl1.out; omega), List.getElem?_eq_getElem (i := j) _⟩
                  have hrg1 : wr.rangeAt b1 (o1 + j * 2) [.int .i64 e1.th, .int .i64 e1.wh] := range_sl enc__len S1r he1
                  have hstep : Hid (stepB al E1 j k = true) := step_yes HA.out hja (by have := hl1.out; omega)
                  have HE1e := Lib.hid he1
                  have HK2 : Hid (k < E2.length) := by rw [Hid, hl2.out]; omega
                  clear he1 S1r
                  go_upto_region 19 with (fail)
                  obtain ⟨W7, hW7⟩ : ∃ W7, W7 = wr := ⟨_, rfl⟩
                  subst hW7
                  have st7 := st.drew
                  have x22 := st.c22
                  have HV8 := Lib.hid st.v8
                  have zs3 := st.b3.lt
                  have hkz := st.kk.size
                  obtain ⟨q, hqB, hq⟩ := own_q st.own
                  have hnb : b1 ≠ q := by omega
                  have hn3 : w1.heap.size ≠ q := by omega
                  clear ca
                  have hX := @ExtK.cell (q) W7
                  have hzz0 := block_lt_of_cell x22
                  refine wp_region_noPanic ?_
                  refine wp_region_last (fun w' => ∃ x : ExtK (q) W7, w' = x.w) 9 (PG.one [0, 1, 2, 3, 4, 5] 6 (PG.one [] 7 (PG.fin [8]))) (by kernel_rfl) (by kernel_rfl) (by kernel_rfl) (fun _ _ _ _ _ h => h) ⟨⟨_, (Keeps.refl _ W7).drew⟩, rfl⟩ ?_
                  refine wpG_one ?_
                  simp only [pickOps, List.getElem?_cons_succ, List.getElem?_cons_zero, Option.elim_some]
                  go_big_quiet_step (fail)
                  go_big_quiet_step (fail)
                  go_big_quiet_step (fail)
                  go_big_quiet_step (fail)
                  go_big_quiet_step (fail)
                  refine wpQuiet_load_mid rfl 42 (.tmp 74) rfl b1 (o1 + j * 2) rfl [.int .i64 e1.th, .int .i64 e1.wh] _ (range_extk hrg1 hnb) Try.underlying42 rfl (by kernel_rfl) ?_; simp only [Act.put, List.setIfInBounds_toArray, List.set_cons_succ, List.set_cons_zero]
                  refine wpQuiet_nil ?_
                  refine planAct_some (fun K hK => ?_)
                  go_simp
                  refine hK.out _ _ (extk_mem ((Keeps.refl _ W7).drew.alloc _)) ?_
                  clear hK K
                  refine wpG_one ?_
                  simp only [pickOps, List.getElem?_cons_succ, List.getElem?_cons_zero, Option.elim_some]
                  repeat (go_big_quiet_step (fail))
                  refine wpQuiet_nil ?_
                  refine planAct_some (fun K hK => ?_)
                  refine step_app (ys := [.int .i64 e1.th, .int .i64 e1.wh]) (m := 1) E2x rfl (.tmp 71) (.tmp 76) rfl W4.heap.size rfl (st7.own.alloc _ :) rfl rfl (Rd.new _ _ _ rfl) (by simp [Value.oneCell']) (by unfold maxLen; omega) (by omega) (by simp; omega) ?_
                  intro A8 c8 w8 own8 hg8 ho8
                  have HO8 := Lib.hid ho8
                  clear ho8
                  go_simp
                  refine hK.out _ _ (extk_mem (((Keeps.refl _ W7).drew.alloc _).grown hg8 (fun k' q1 _ => hq k' q1))) ?_
                  clear hK K
                  obtain ⟨g2, kk8⟩ := (st.alloc (.cells #[.int .i64 e1.th, .int .i64 e1.wh] 42)).drew.grown (ys := []) (n' := 0) hg8
                  have f8 := g2.frozen 22
                  have v8 : w8.cell? ⟨w1.heap.size, 22, none⟩ = some (.slice A' m c') := (g2.cell 22).trans (by rw [List.getElem?_toArray]; exact scc_last HV8.out)
                  have z8 := g2.lt
                  clear g2 kk8
                  refine wpG_fin ?_
                  simp only [pickOps, List.getElem?_cons_succ, List.getElem?_cons_zero, Option.elim_some]
                  repeat (go_big_quiet_step (fail))
                  refine wpQuiet_nil ?_
                  refine lastG_some (fun K hK => ?_)
                  go_simp
                  refine hK.out _ _ ?_
                  clear hK K
                  refine NoPanic.normal ?_
                  clear hX hzz0
                  have st8 := (st.alloc (.cells #[.int .i64 e1.th, .int .i64 e1.wh] 42)).drew.push (l := [e1]) hs34 hg8 own8
                  have Bx8 := ((Bx.alloc (.cells #[.int .i64 e1.th, .int .i64 e1.wh] 42)).drew.grown hg8 (fun q1 => HOX.out x q1.symm rfl)).far (p := ⟨w1.heap.size, 22, none⟩) (by dsimp only; omega) (.slice A8 (m + 1) c8)
                  have Bxz := Lib.hid Bx.lt
                  clear st Bx st7 x22 hrg1 hnb hn3 hq
                  go_wp2_with fail
                  go_roundg (gk - 1)
                  case measure => omega
                  case rel =>
                    refine ⟨j + 1, m + 1, A8, c8, out ++ [e1], by omega, by go_num, by omega, ?_, st8, Bx8, fun kk hkk => by
                      have hxz := Bxz.out
                      rcases HO8.out with h | h
                      · rw [h] at hkk
                        exact HOX.out kk hkk
                      · rw [h] at hkk
                        injection hkk with hkk
                        simp at hkk
                        omega⟩
                    rw [Hid, List.append_assoc, List.singleton_append, ← mg_x HK2.out hstep.out HE1e.out]
                    exact hmg.out
                · have hstep : Hid (stepB al E1 j k = false) := step_no fun a' h1 h2 => hjx (by have := hl1.out; omega)
                  have t2 : decide (j < m1) = false := decide_eq_false hjx
                  have x22 := st.c22
                  have zx := Bx.lt
                  have zs3 := st.b3.lt
                  have HV8 := Lib.hid st.v8
                  have st7 := st.alloc (.cells #[.int .i64 e2.th, .int .i64 e2.wh] 42)
                  have hkz := st.kk.size
                  have tok1 : True := trivial; have tok2 : True := trivial
                  go_wp2_with (first | (have _t := tok1; refine wpList_load_row (o := ⟨some 83, _, _, _, _, _⟩) rfl 42 (.tmp 15) rfl x rfl 42 _ _ _ Bx Try.underlying42 rfl (by kernel_rfl) ?_; clear tok1 _t) | (have _t := tok2; at_builtin; refine wpList_app (ys := [.int .i64 e2.th, .int .i64 e2.wh]) (m := 1) E2x rfl (.tmp 82) (.tmp 84) rfl W4.heap.size rfl st7.own rfl rfl (Rd.new _ _ _ rfl) (by simp [Value.oneCell']) (by unfold maxLen; omega) (by omega) (by simp; omega) ?_; intro A8 c8 w8 own8 hg8 _; obtain ⟨g2, kk8⟩ := st7.grown (ys := []) (n' := 0) hg8; have f8 := g2.frozen 22; have v8 : w8.cell? ⟨w1.heap.size, 22, none⟩ = some (.slice A' m c') := (g2.cell 22).trans (by rw [List.getElem?_toArray]; exact scc_last HV8.out); have z8 := g2.lt; clear g2 kk8 x22 tok2 _t))
                  go_roundg (gr - 1)
                  case measure => omega
                  case rel =>
                    refine ⟨k + 1, j, m + 1, A8, c8, out ++ [e2], by omega, by go_num, rfl, hjm, by omega, ?_, st7.push (l := [e2]) hs34 hg8 own8⟩
                    rw [Hid, List.append_assoc, List.singleton_append, ← mg_y HE2.out hstep.out]
                    exact hmg.out
              · have hstep : Hid (stepB al E1 j k = false) := step_no fun a' h1 h2 => hja (by rw [HA.out] at h1; cases h1; exact h2.1)
                have t1 : decide ((j : Int) < a) = false := decide_eq_false hja
                clear hja
                have x22 := st.c22
                have zx := Bx.lt
                have zs3 := st.b3.lt
                have HV8 := Lib.hid st.v8
                have st7 := st.alloc (.cells #[.int .i64 e2.th, .int .i64 e2.wh] 42)
                have hkz := st.kk.size
                have tok1 : True := trivial; have tok2 : True := trivial
                go_wp2_with (first | (have _t := tok1; refine wpList_load_row (o := ⟨some 83, _, _, _, _, _⟩) rfl 42 (.tmp 15) rfl x rfl 42 _ _ _ Bx Try.underlying42 rfl (by kernel_rfl) ?_; clear tok1 _t) | (have _t := tok2; at_builtin; refine wpList_app (ys := [.int .i64 e2.th, .int .i64 e2.wh]) (m := 1) E2x rfl (.tmp 82) (.tmp 84) rfl W4.heap.size rfl st7.own rfl rfl (Rd.new _ _ _ rfl) (by simp [Value.oneCell']) (by unfold maxLen; omega) (by omega) (by simp; omega) ?_; intro A8 c8 w8 own8 hg8 _; obtain ⟨g2, kk8⟩ := st7.grown (ys := []) (n' := 0) hg8; have f8 := g2.frozen 22; have v8 : w8.cell? ⟨w1.heap.size, 22, none⟩ = some (.slice A' m c') := (g2.cell 22).trans (by rw [List.getElem?_toArray]; exact scc_last HV8.out); have z8 := g2.lt; clear g2 kk8 x22 tok2 _t))
                go_roundg (gr - 1)
                case measure => omega
                case rel =>
                  refine ⟨k + 1, j, m + 1, A8, c8, out ++ [e2], by omega, by go_num, rfl, hjm, by omega, ?_, st7.push (l := [e2]) hs34 hg8 own8⟩
                  rw [Hid, List.append_assoc, List.singleton_append, ← mg_y HE2.out hstep.out]
                  exact hmg.out
          · have hstep : Hid (stepB al E1 j k = false) := step_no fun a' h1 h2 => hka (by have := (List.getElem?_eq_some_iff.1 h1).1; have := hl3.out; omega)
            have t2 : ¬ ((k : Int) < (an : Int)) := by omega
            clear hka
            have x22 := st.c22
            have zx := Bx.lt
            have zs3 := st.b3.lt
            have HV8 := Lib.hid st.v8
            have st7 := st.alloc (.cells #[.int .i64 e2.th, .int .i64 e2.wh] 42)
            have hkz := st.kk.size
            have tok1 : True := trivial; have tok2 : True := trivial
            go_wp2_with (first | (have _t := tok1; refine wpList_load_row (o := ⟨some 83, _, _, _, _, _⟩) rfl 42 (.tmp 15) rfl x rfl 42 _ _ _ Bx Try.underlying42 rfl (by kernel_rfl) ?_; clear tok1 _t) | (have _t := tok2; at_builtin; refine wpList_app (ys := [.int .i64 e2.th, .int .i64 e2.wh]) (m := 1) E2x rfl (.tmp 82) (.tmp 84) rfl W4.heap.size rfl st7.own rfl rfl (Rd.new _ _ _ rfl) (by simp [Value.oneCell']) (by unfold maxLen; omega) (by omega) (by simp; omega) ?_; intro A8 c8 w8 own8 hg8 _; obtain ⟨g2, kk8⟩ := st7.grown (ys := []) (n' := 0) hg8; have f8 := g2.frozen 22; have v8 : w8.cell? ⟨w1.heap.size, 22, none⟩ = some (.slice A' m c') := (g2.cell 22).trans (by rw [List.getElem?_toArray]; exact scc_last HV8.out); have z8 := g2.lt; clear g2 kk8 x22 tok2 _t))
            go_roundg (gr - 1)
            case measure => omega
            case rel =>
              refine ⟨k + 1, j, m + 1, A8, c8, out ++ [e2], by omega, by go_num, rfl, hjm, by omega, ?_, st7.push (l := [e2]) hs34 hg8 own8⟩
              rw [Hid, List.append_assoc, List.singleton_append, ← mg_y HE2.out hstep.out]
              exact hmg.out
        · have hge : ¬ ((k : Int) < (m2 : Int)) := by omega
          have S1r := S1w.keepS enc__len st.kk (fun hne ad e hlt q => by have := hA1' hne ad e; omega) (by decide)
          have x22 := st.c22
          have HV8 := Lib.hid st.v8
          have zs3 := st.b3.lt
          have hkz := st.kk.size
          obtain ⟨W7, hW7⟩ : ∃ W7, W7 = wr := ⟨_, rfl⟩
          subst hW7
          have j0 : (0 : Int) ≤ (j : Int) := by omega
          have hjd : j ≤ d1 := Nat.le_trans hjm S1w.cap
          have j1 : (j : Int) ≤ (d1 : Int) := by omega
          have hj1i : (j : Int) ≤ (m1 : Int) := by omega
          have hd1i : (m1 : Int) ≤ (d1 : Int) := by have := S1w.cap; omega
          obtain ⟨q, hqB, hq⟩ := own_q st.own
          have hn3 : w1.heap.size ≠ q := by omega
          go_upto_region 23 with (fail)
          have hX := @ExtK.cell q W7
          have hzz0 := block_lt_of_cell x22
          refine wp_region_noPanic ?_
          refine wp_region_last (fun w' => ∃ x : ExtK q W7, w' = x.w) 7 (PG.one [0, 1, 2, 3, 4] 5 (PG.fin [6])) (by kernel_rfl) (by kernel_rfl) (by kernel_rfl) (fun _ _ _ _ _ h => h) ⟨⟨_, (Keeps.refl _ W7).drew⟩, rfl⟩ ?_
          refine wpG_one ?_
          simp only [pickOps, List.getElem?_cons_succ, List.getElem?_cons_zero, Option.elim_some]
          repeat (go_big_quiet_step (fail))
          refine wpQuiet_nil ?_
          have S1f := S1r.from_ enc__len hjm
          have hone : ∀ u ∈ (E1.drop j).flatMap enc_, u.oneCell' = true := fun u hu => by
            obtain ⟨y, _, hy⟩ := List.mem_flatMap.1 hu
            unfold enc_ at hy
            simp only [List.mem_cons, List.not_mem_nil, or_false] at hy
            rcases hy with rfl | rfl <;> rfl
          have hlf : ((E1.drop j).flatMap enc_).length = (m1 - j) * 2 := by rw [flat_len enc__len, S1f.len]
          refine planAct_some (fun K hK => ?_)
          refine step_app (ys := (E1.drop j).flatMap enc_) (m := m1 - j) (c := d1 - j) E2x rfl (.tmp 89) (.tmp 92) rfl W4.heap.size rfl (st.drew.own :) ?hx hlf (S1f.rd.drew) hone (by unfold maxLen; omega) (by omega) (by simp; omega) ?_
          case hx => rfl
          intro A8 c8 w8 own8 hg8 _
          go_simp
          refine hK.out _ _ (extk_mem ((Keeps.refl _ W7).drew.grown hg8 (fun k' q1 _ => hq k' q1))) ?_
          clear hK K
          obtain ⟨g2, kk8⟩ := st.drew.grown (ys := []) (n' := 0) hg8
          have f8 := g2.frozen 22
          have v8 : w8.cell? ⟨w1.heap.size, 22, none⟩ = some (.slice A' m c') := (g2.cell 22).trans (by rw [List.getElem?_toArray]; exact scc_last HV8.out)
          have z8 := g2.lt
          refine wpG_fin ?_
          simp only [pickOps, List.getElem?_cons_succ, List.getElem?_cons_zero, Option.elim_some]
          repeat (go_big_quiet_step (fail))
          refine wpQuiet_nil ?_
          refine lastG_some (fun K hK => ?_)
          go_simp
          refine hK.out _ _ ?_
          clear hK K
          refine NoPanic.normal ?_
          clear hX hzz0
          obtain ⟨W9, hW9, st9⟩ : ∃ W9, w8.setCell ⟨w1.heap.size, 22, none⟩ (.slice A8 (m + (m1 - j)) c8) = W9 ∧ WSt W4 w1.heap.size c vs (out ++ E1.drop j) A8 (m + (m1 - j)) c8 W9 := ⟨_, rfl, st.drew.push (l := E1.drop j) hs34 hg8 own8⟩
          rw [hW9]
          have HRES : Hid (out ++ E1.drop j = wvE c es es2 lv al) := by
            have h1 := hmg.out
            rw [mg_end (by have := hl2.out; omega)] at h1
            rw [Hid, h1, wvE, HE1.out, HE2'.out]
          have G2 := st9.kk.blk E2b (by intro q1; rcases q1 with q1 | q1 <;> omega)
          have G3 := st9.b3
          have P9 := P4.keeps (st9.kk.mono fun b h _ => h.elim (fun q1 => .inl (.inr (.inl q1))) .inr)
          have kb9 := st9.kk.below kb4 kb4.size (fun x hx _ => by have := kb4.size; rcases hx with hx | hx <;> omega)
          have hinf9 := info_scc (c := c) (us := vs) (ev := .slice A8 (m + (m1 - j)) c8) st9.v8
          have hold9 : (scc cf0 nil8 (.slice none 0 0)).toArray.size = (scc c vs (.slice A8 (m + (m1 - j)) c8)).toArray.size := by rw [List.size_toArray, List.size_toArray, scc_len st9.v8, scc_len rfl]
          have hone9 := scc_one (c := c) P9 A8 (m + (m1 - j)) c8
          have OWN9 := st9.own
          clear hW9 g2 f8 v8 z8 x22 st own8 hg8 hq hn3 kk8 st9 S1r S1f S1w S2w hAlw E4 hone hlf hmg
          have kr := keeps_row W9 (w.heap.size + 1 + 1) (scc c vs (.slice A8 (m + (m1 - j)) c8)).toArray
          have HF1 : Hid (PIn (fun _ => False) (W9.setRow (w.heap.size + 1 + 1) (scc c vs (.slice A8 (m + (m1 - j)) c8)).toArray) vs (wvP c ps ps2 lv)) := by
            rw [Hid, show wvP c ps ps2 lv = PW from HPW.out]
            exact (P9.keeps (kr.mono fun b h _ => .inl (.inl (by omega)))).weak (fun b h => h.elim)
          have HF2 : Hid (Sl enc_ (W9.setRow (w.heap.size + 1 + 1) (scc c vs (.slice A8 (m + (m1 - j)) c8)).toArray) A8 (m + (m1 - j)) c8 (wvE c es es2 lv al)) := by
            rw [Hid, ← HRES.out]
            exact Sl.of_own enc__len (by decide) (kr.own OWN9 (fun k' q1 q2 => own_ne_blk OWN9 G2 (by decide) (by rw [q1, q2])))
          have HF3 := Lib.hid (kr.below kb9 kb9.size (fun x hx _ => by omega))
          have HF4 := Lib.hid (G2.row (scc c vs (.slice A8 (m + (m1 - j)) c8)).toArray)
          clear kr P9 kb9 OWN9 HRES
          have tok1 : True := trivial; have tok2 : True := trivial
          go_wp2_with (first | (have _t := tok1; refine wpList_load_row (o := ⟨some 95, _, _, _, _, _⟩) rfl 29 (.tmp 9) rfl w1.heap.size rfl 29 _ _ _ G3 Try.underlying29 rfl hinf9 ?_; clear tok1 _t) | (have _t := tok2; refine wpList_store_row (o := ⟨none, .store 29 (.tmp 8) (.tmp 95), _, _, _, _⟩) rfl 29 (.tmp 8) (.tmp 95) rfl (w.heap.size + 1 + 1) _ rfl rfl 29 _ G2 hinf9 hold9 hone9 ?_; clear tok2 _t))
          all_goals exact bodyPost_ret (v := .agg (scc c vs (.slice A8 (m + (m1 - j)) c8)).toArray) (results_cell_row rfl _ _ (w.heap.size + 1 + 1) 29 _ _ _ rfl HF4.out Try.underlying29 rfl hinf9) rfl ⟨vs, A8, m + (m1 - j), c8, rfl, HF1.out, HF2.out, HF3.out⟩
end Go.Proofs.Ytijffncgokcidaa
