/- Scripts: what goes of one, by the document. -/
import Derived.Test.YtijffncgokcidaaPurgeE
namespace Go.Proofs.Ytijffncgokcidaa
set_option linter.unusedVariables false
set_option linter.unusedSimpArgs false
open Go.RowKit

set_option maxHeartbeats 4000000 in
set_option maxRecDepth 100000 in
theorem rkeep_ab {w : World} {c : Cf} {us : List Value} {ps : List (List CV)} {EA : Option Addr} {en ec : Nat} {es : List En} (lv : Int) (hP : PIn (fun _ => False) w us ps) (hE : Sl enc_ w EA en ec es) (hen : en ≤ 1000000) :
    Calls Try.prog 10 #[.agg (scc c us (.slice EA en ec)).toArray, .int .i64 lv, .bool true] w fun e w' => ∃ us' A m d, e = .returned (.agg (scc c us' (.slice A m d)).toArray) ∧ PIn (fun _ => False) w' us' (psK (stAb c lv) ps 8) ∧ Sl enc_ w' A m d (es.filter fun e => stAb c lv e.th) ∧ Below w.heap.size w w' := by
  obtain ⟨i1, E2⟩ := elem_en
  have h8 := hP.u8
  have hlen := hE.len
  go_enter Try.func10, Try.ntmps10
  go_upto_region 1 with (fail)
  obtain ⟨W0, hW0, B0, B1, kb, hz0⟩ : ∃ W0, (w.alloc (.cells (scc c us (.slice EA en ec)).toArray 29)).alloc (.cells #[.int .i64 0, .int .i64 0, .int .i64 0, .int .i64 0, .int .i64 0, .int .i64 0, .int .i64 0, .int .i64 0, .int .i64 0, .int .i64 0, .int .i64 0, .int .i64 0, .int .i64 0, .int .i64 0, .slice none 0 0, .slice none 0 0, .slice none 0 0, .slice none 0 0, .slice none 0 0, .slice none 0 0, .slice none 0 0, .slice none 0 0, .slice none 0 0] 29) = W0 ∧ Blk W0 w.heap.size 29 (scc c us (.slice EA en ec)).toArray ∧ Blk W0 (w.heap.size + 1) 29 (scc cf0 nil8 (.slice none 0 0)).toArray ∧ Below w.heap.size w W0 ∧ W0.heap.size = w.heap.size + 1 + 1 := ⟨_, rfl, (Blk.new _ _ _).alloc _, by have := Blk.new (w.alloc (.cells (scc c us (.slice EA en ec)).toArray 29)) 29 (scc cf0 nil8 (.slice none 0 0)).toArray; rwa [World.size_alloc] at this, bnew (bnew (brefl w) _) _, by simp⟩
  rw [hW0]
  clear hW0
  have r0 : W0.rangeAt w.heap.size 0 [.int .i64 c.lv, .int .i64 c.th, .int .i64 c.o0, .int .i64 c.o1, .int .i64 c.o2, .int .i64 c.o3, .int .i64 c.o4, .int .i64 c.o5, .int .i64 c.o6, .int .i64 c.o7, .int .i64 c.sl, .int .i64 c.li, .int .i64 c.ge, .int .i64 c.qu] := range_blk B0 0 (scc_conf c us _)
  have HZ0 := Lib.hid hz0
  clear hz0
  have tok1 : True := trivial; have tok2 : True := trivial
  go_upto_region 2 with (first | (have _t := tok1; refine wpList_load_mid (op := ⟨some 11, _, _, _, _, _⟩) rfl 24 (.tmp 10) rfl w.heap.size 0 rfl [.int .i64 c.lv, .int .i64 c.th, .int .i64 c.o0, .int .i64 c.o1, .int .i64 c.o2, .int .i64 c.o3, .int .i64 c.o4, .int .i64 c.o5, .int .i64 c.o6, .int .i64 c.o7, .int .i64 c.sl, .int .i64 c.li, .int .i64 c.ge, .int .i64 c.qu] _ r0 Try.underlying24 rfl (by kernel_rfl) ?_; clear tok1 _t) | (have _t := tok2; refine wpList_store_row (o := ⟨none, .store 29 (.tmp 7) (.tmp 12), _, _, _, _⟩) rfl 29 (.tmp 7) (.tmp 12) rfl W0.heap.size _ rfl rfl 29 _ (Blk.new W0 _ _) (by kernel_rfl) (by simp) (by simp [Value.oneCell']) ?_; clear tok2 _t))
  obtain ⟨W1, hW1, C0, C1, C2, kb1⟩ : ∃ W1, (W0.alloc (.cells #[.int .i64 0, .int .i64 0, .int .i64 0, .int .i64 0, .int .i64 0, .int .i64 0, .int .i64 0, .int .i64 0, .int .i64 0, .int .i64 0, .int .i64 0, .int .i64 0, .int .i64 0, .int .i64 0, .slice none 0 0, .slice none 0 0, .slice none 0 0, .slice none 0 0, .slice none 0 0, .slice none 0 0, .slice none 0 0, .slice none 0 0, .slice none 0 0] 29)).setRow W0.heap.size #[.int .i64 c.lv, .int .i64 c.th, .int .i64 c.o0, .int .i64 c.o1, .int .i64 c.o2, .int .i64 c.o3, .int .i64 c.o4, .int .i64 c.o5, .int .i64 c.o6, .int .i64 c.o7, .int .i64 c.sl, .int .i64 c.li, .int .i64 c.ge, .int .i64 c.qu, .slice none 0 0, .slice none 0 0, .slice none 0 0, .slice none 0 0, .slice none 0 0, .slice none 0 0, .slice none 0 0, .slice none 0 0, .slice none 0 0] = W1 ∧ Blk W1 w.heap.size 29 (scc c us (.slice EA en ec)).toArray ∧ Blk W1 (w.heap.size + 1) 29 (scc cf0 nil8 (.slice none 0 0)).toArray ∧ Blk W1 (w.heap.size + 1 + 1) 29 (scc c nil8 (.slice none 0 0)).toArray ∧ Below w.heap.size w W1 := by
    have hz := HZ0.out
    have kr := keeps_row (W0.alloc (.cells #[.int .i64 0, .int .i64 0, .int .i64 0, .int .i64 0, .int .i64 0, .int .i64 0, .int .i64 0, .int .i64 0, .int .i64 0, .int .i64 0, .int .i64 0, .int .i64 0, .int .i64 0, .int .i64 0, .slice none 0 0, .slice none 0 0, .slice none 0 0, .slice none 0 0, .slice none 0 0, .slice none 0 0, .slice none 0 0, .slice none 0 0, .slice none 0 0] 29)) W0.heap.size #[.int .i64 c.lv, .int .i64 c.th, .int .i64 c.o0, .int .i64 c.o1, .int .i64 c.o2, .int .i64 c.o3, .int .i64 c.o4, .int .i64 c.o5, .int .i64 c.o6, .int .i64 c.o7, .int .i64 c.sl, .int .i64 c.li, .int .i64 c.ge, .int .i64 c.qu, .slice none 0 0, .slice none 0 0, .slice none 0 0, .slice none 0 0, .slice none 0 0, .slice none 0 0, .slice none 0 0, .slice none 0 0, .slice none 0 0]
    have b0 := B0.lt
    have b1 := B1.lt
    refine ⟨_, rfl, kr.blk (B0.alloc _) (by omega), kr.blk (B1.alloc _) (by omega), ?_, kr.below (bnew kb _) (by simp; omega) (fun x hx _ => by omega)⟩
    have h2 := (Blk.new W0 29 #[.int .i64 0, .int .i64 0, .int .i64 0, .int .i64 0, .int .i64 0, .int .i64 0, .int .i64 0, .int .i64 0, .int .i64 0, .int .i64 0, .int .i64 0, .int .i64 0, .int .i64 0, .int .i64 0, .slice none 0 0, .slice none 0 0, .slice none 0 0, .slice none 0 0, .slice none 0 0, .slice none 0 0, .slice none 0 0, .slice none 0 0, .slice none 0 0]).row #[.int .i64 c.lv, .int .i64 c.th, .int .i64 c.o0, .int .i64 c.o1, .int .i64 c.o2, .int .i64 c.o3, .int .i64 c.o4, .int .i64 c.o5, .int .i64 c.o6, .int .i64 c.o7, .int .i64 c.sl, .int .i64 c.li, .int .i64 c.ge, .int .i64 c.qu, .slice none 0 0, .slice none 0 0, .slice none 0 0, .slice none 0 0, .slice none 0 0, .slice none 0 0, .slice none 0 0, .slice none 0 0, .slice none 0 0]
    rw [hz] at h2 ⊢
    exact h2
  rw [hW1, HZ0.out]
  clear HZ0 hW1 B0 B1 kb r0
  generalize Value.agg #[.int .i64 c.lv, .int .i64 c.th, .int .i64 c.o0, .int .i64 c.o1, .int .i64 c.o2, .int .i64 c.o3, .int .i64 c.o4, .int .i64 c.o5, .int .i64 c.o6, .int .i64 c.o7, .int .i64 c.sl, .int .i64 c.li, .int .i64 c.ge, .int .i64 c.qu] = V11
  generalize Value.agg #[.int .i64 c.lv, .int .i64 c.th, .int .i64 c.o0, .int .i64 c.o1, .int .i64 c.o2, .int .i64 c.o3, .int .i64 c.o4, .int .i64 c.o5, .int .i64 c.o6, .int .i64 c.o7, .int .i64 c.sl, .int .i64 c.li, .int .i64 c.ge, .int .i64 c.qu, .slice none 0 0, .slice none 0 0, .slice none 0 0, .slice none 0 0, .slice none 0 0, .slice none 0 0, .slice none 0 0, .slice none 0 0, .slice none 0 0] = V12
  generalize hV0 : Value.agg (scc c us (.slice EA en ec)).toArray = V0
  clear hV0
  go_wp2_with fail
  go_loopg [8] 8 (fun gk i wr => ∃ (k : Nat) (vs : List Value), k + gk = 8 ∧ i = .int .i64 k ∧ Blk wr w.heap.size 29 (scc c us (.slice EA en ec)).toArray ∧ Blk wr (w.heap.size + 1) 29 (scc cf0 nil8 (.slice none 0 0)).toArray ∧ Blk wr (w.heap.size + 1 + 1) 29 (scc c vs (.slice none 0 0)).toArray ∧ PIn (fun b => w.heap.size ≤ b) wr vs (psK (stAb c lv) ps k) ∧ Below w.heap.size w wr)
  case atStart => exact ⟨0, nil8, by omega, rfl, C0, C1, C2, PIn.nil _ _ _ _, kb1⟩
  case round =>
    clear C0 C1 C2 kb1
    obtain ⟨k, vs, hk, rfl, C0, C1, C2, P2, kb⟩ := hrel
    by_cases hlt : k < 8
    · obtain ⟨l, hl⟩ : ∃ l, ps[k]? = some l := ⟨ps[k]'(by have := hP.p8; omega), List.getElem?_eq_getElem (i := k) _⟩
      obtain ⟨A, n, c', hu, hs, hA⟩ := hP.old.at_ k l hl
      have b0 : (0 : Int) ≤ (k : Int) := by omega
      have b1 : (k : Int) < 8 := by omega
      have hcall := rabove_any c (k : Int) lv wr
      have HL : Hid (ps.getD k [] = l) := by rw [Hid, List.getD_eq_getElem?_getD, hl]; rfl
      have HV8 := Lib.hid P2.u8
      have HU := Lib.hid hu
      have r0 : wr.rangeAt w.heap.size 0 [.int .i64 c.lv, .int .i64 c.th, .int .i64 c.o0, .int .i64 c.o1, .int .i64 c.o2, .int .i64 c.o3, .int .i64 c.o4, .int .i64 c.o5, .int .i64 c.o6, .int .i64 c.o7, .int .i64 c.sl, .int .i64 c.li, .int .i64 c.ge, .int .i64 c.qu] := range_blk C0 0 (scc_conf c us _)
      clear hu hl
      cases hk0 : abB c (k : Int) lv with
      | false =>
        rw [hk0] at hcall
        have HK : Hid (stAb c lv (k : Int) = false) := by rw [Hid, stAb, hk0]
        clear hk0
        have tok1 : True := trivial; have tok2 : True := trivial
        go_wp2_with (first | (have _t := tok1; refine wpList_load_mid (op := ⟨some 18, _, _, _, _, _⟩) rfl 24 (.tmp 17) rfl w.heap.size 0 rfl [.int .i64 c.lv, .int .i64 c.th, .int .i64 c.o0, .int .i64 c.o1, .int .i64 c.o2, .int .i64 c.o3, .int .i64 c.o4, .int .i64 c.o5, .int .i64 c.o6, .int .i64 c.o7, .int .i64 c.sl, .int .i64 c.li, .int .i64 c.ge, .int .i64 c.qu] _ r0 Try.underlying24 rfl (by kernel_rfl) ?_; clear tok1 _t) | (go_at_call 20; refine hcall.mono ?_; rintro e w2 ⟨rfl, hb2⟩))
        go_roundg (gk - 1)
        case measure => omega
        case rel => exact ⟨k + 1, vs, by omega, by go_num, C0.below_ hb2, C1.below_ hb2, C2.below_ hb2, by rw [psK_no _ _ _ HK.out]; exact P2.below hb2, bnext kb hb2⟩
      | true =>
        rw [hk0] at hcall
        have HK : Hid (stAb c lv (k : Int) = true) := by rw [Hid, stAb, hk0]
        clear hk0
        have tok1 : True := trivial; have tok2 : True := trivial
        go_upto_region 6 with (first | (have _t := tok1; refine wpList_load_mid (op := ⟨some 18, _, _, _, _, _⟩) rfl 24 (.tmp 17) rfl w.heap.size 0 rfl [.int .i64 c.lv, .int .i64 c.th, .int .i64 c.o0, .int .i64 c.o1, .int .i64 c.o2, .int .i64 c.o3, .int .i64 c.o4, .int .i64 c.o5, .int .i64 c.o6, .int .i64 c.o7, .int .i64 c.sl, .int .i64 c.li, .int .i64 c.ge, .int .i64 c.qu] _ r0 Try.underlying24 rfl (by kernel_rfl) ?_; clear tok1 _t) | (go_at_call 20; refine hcall.mono ?_; rintro e w2 ⟨rfl, hb2⟩))
        have D0 := C0.below_ hb2
        have D1 := C1.below_ hb2
        have D2 := C2.below_ hb2
        have P3 := P2.below hb2
        have kb2 := bnext kb hb2
        have v0 : w2.cell? ⟨w.heap.size, 14 + k, none⟩ = some (.slice A n c') := (D0.cell _).trans (by rw [List.getElem?_toArray]; exact scc_get HU.out)
        obtain ⟨u8, v8⟩ : ∃ u, w2.cell? ⟨w.heap.size + 1 + 1, 14 + k, none⟩ = some u := ⟨_, (D2.cell _).trans (by rw [List.getElem?_toArray]; exact scc_get (List.getElem?_eq_getElem (by rw [HV8.out]; exact hlt)))⟩
        have f8 := D2.frozen (14 + k)
        have z0 := D0.lt
        have z2 := D2.lt
        clear hcall C0 C1 C2 P2 kb r0 hb2
        go_wp2_with fail
        go_roundg (gk - 1)
        case measure => omega
        case rel =>
          refine ⟨k + 1, vs.set k (.slice A n c'), by omega, by go_num, D0.far (p := ⟨w.heap.size + 1 + 1, 14 + k, none⟩) (by dsimp only; omega) _, D1.far (p := ⟨w.heap.size + 1 + 1, 14 + k, none⟩) (by dsimp only; omega) _, ?_, ?_, bset kb2 (p := ⟨w.heap.size + 1 + 1, 14 + k, none⟩) (by dsimp only; omega) _⟩
          · rw [← scc_set (by rw [HV8.out]; exact hlt), ← List.setIfInBounds_toArray]
            exact D2.set_ _ _
          · have kk : Keeps (fun b => w.heap.size ≤ b) w2 (w2.setCell ⟨w.heap.size + 1 + 1, 14 + k, none⟩ (.slice A n c')) := (Keeps.refl _ w2).setCell (p := ⟨w.heap.size + 1 + 1, 14 + k, none⟩) (fun _ => by dsimp only; omega) _
            refine PIn.put (P3.keeps kk) hlt HK.out ?_ ?_
            · rw [HL.out]
              by_cases he : l = []
              · subst he
                exact ⟨hs.len, hs.cap, Rd.nil _ _, hs.nil_⟩
              · exact kk.sl (hs.below kb2) (fun ad e => hA ad e he)
            · rw [HL.out]
              exact hA
    · have hge : ¬ ((k : Int) < 8) := by omega
      obtain rfl : k = 8 := by omega
      have L2 : True := trivial
      obtain ⟨B, hB⟩ : ∃ B, wr.heap.size = B := ⟨_, rfl⟩
      have hBw : w.heap.size + 1 + 1 < B := by have := C2.lt; omega
      have hBr : B ≤ wr.heap.size := by omega
      clear hlt hk hB L2 hge
      go_wp2_with fail
      go_loopg [9] en (fun gk i wr => ∃ (k m : Nat) (A' : Option Addr) (c' : Nat), k + gk = en ∧ i = .int .i64 k ∧ Hid (m = ((es.take k).filter fun e => stAb c lv e.th).length) ∧ wr.ownsRow B 42 2 (.slice A' m c') m (((es.take k).filter fun e => stAb c lv e.th).flatMap enc_) ∧ Blk wr w.heap.size 29 (scc c us (.slice EA en ec)).toArray ∧ Blk wr (w.heap.size + 1) 29 (scc cf0 nil8 (.slice none 0 0)).toArray ∧ Blk wr (w.heap.size + 1 + 1) 29 (scc c vs (.slice A' m c')).toArray ∧ PIn (fun b => w.heap.size ≤ b) wr vs (psK (stAb c lv) ps 8) ∧ B ≤ wr.heap.size ∧ Below w.heap.size w wr)
      case atStart => exact ⟨0, 0, none, 0, by omega, rfl, rfl, World.ownsRow_nil _ _ _ _, C0, C1, C2, P2, hBr, kb⟩
      case round =>
        clear C0 C1 C2 P2 kb hBr
        obtain ⟨k, m, A', c', hk, rfl, hm, own, C0, C1, C2, P2, hBr, kb⟩ := hrel
        have c22 : wr.cell? ⟨w.heap.size, 22, none⟩ = some (.slice EA en ec) := (C0.cell 22).trans (by rw [List.getElem?_toArray]; exact scc_last h8)
        have z0 := C0.lt
        by_cases hlt : k < en
        · obtain ⟨b, o', rfl, hbw, hc⟩ := hE.base enc__len (by decide) (by omega)
          obtain ⟨e, he⟩ : ∃ e, es[k]? = some e := ⟨es[k]'(by omega), List.getElem?_eq_getElem (i := k) _⟩
          have hrg : wr.rangeAt b (o' + k * 2) [.int .i64 e.th, .int .i64 e.wh] := range_sl enc__len (hE.below kb) he
          have ce : wr.cell? ⟨b, o' + k * 2, none⟩ = some (.int .i64 e.th) := hrg 0 _ rfl
          have b0 : (0 : Int) ≤ (k : Int) := by omega
          have b1 : (k : Int) < (en : Int) := by omega
          have hmk : m ≤ k := by
            have h1 := hm.out
            have h2 := List.length_filter_le (fun e : En => stAb c lv e.th) (es.take k)
            have h3 := List.length_take_le k es
            omega
          have HS : Hid ((es.take (k + 1)).filter (fun e => stAb c lv e.th) = (es.take k).filter (fun e => stAb c lv e.th) ++ (if stAb c lv e.th = true then [e] else [])) := by
            rw [Hid, List.take_add_one, he, List.filter_append]
            congr 1
            by_cases h : stAb c lv e.th = true <;> simp [h]
          have r0 : wr.rangeAt w.heap.size 0 [.int .i64 c.lv, .int .i64 c.th, .int .i64 c.o0, .int .i64 c.o1, .int .i64 c.o2, .int .i64 c.o3, .int .i64 c.o4, .int .i64 c.o5, .int .i64 c.o6, .int .i64 c.o7, .int .i64 c.sl, .int .i64 c.li, .int .i64 c.ge, .int .i64 c.qu] := range_blk C0 0 (scc_conf c us _)
          have hcall := fun W => rabove_any c e.th lv W
          clear he hc
          go_upto_region 10 with (fail)
          obtain ⟨W3, hW3⟩ : ∃ W3, W3 = wr := ⟨_, rfl⟩
          subst hW3
          cases hk0 : abB c e.th lv with
          | false =>
            rw [hk0] at hcall
            have HF : Hid ((es.take (k + 1)).filter (fun e => stAb c lv e.th) = (es.take k).filter (fun e => stAb c lv e.th)) := by rw [Hid, HS.out, stAb, hk0]; simp
            clear hk0
            have hX := @Ext.cell W3
            have hzz0 := block_lt_of_cell c22
            have hzz1 := block_lt_of_cell ce
            refine wp_region_noPanic ?_
            refine wp_region_plan (fun w' => ∃ x : Ext W3, w' = x.w) [([0, 1, 2, 3, 4, 5, 6, 7, 8, 10], 9)] [11] (by kernel_rfl) (by kernel_rfl) (by kernel_rfl) (fun _ _ _ _ _ h => h) ⟨⟨_, (brefl W3).drew⟩, rfl⟩ ?_
            refine wpPlan_cons ?_
            simp only [pickOps, List.getElem?_cons_succ, List.getElem?_cons_zero, Option.elim_some]
            go_big_quiet_step (fail)
            refine wpQuiet_load_mid rfl 24 (.tmp 38) rfl w.heap.size (0) rfl [.int .i64 c.lv, .int .i64 c.th, .int .i64 c.o0, .int .i64 c.o1, .int .i64 c.o2, .int .i64 c.o3, .int .i64 c.o4, .int .i64 c.o5, .int .i64 c.o6, .int .i64 c.o7, .int .i64 c.sl, .int .i64 c.li, .int .i64 c.ge, .int .i64 c.qu] _ (range_ext r0) Try.underlying24 rfl (by kernel_rfl) ?_; simp only [Act.put, List.setIfInBounds_toArray, List.set_cons_succ, List.set_cons_zero]
            go_big_quiet_step (fail)
            go_big_quiet_step (fail)
            go_big_quiet_step (fail)
            go_big_quiet_step (fail)
            go_big_quiet_step (fail)
            go_big_quiet_step (fail)
            go_big_quiet_step (fail)
            go_big_quiet_step (fail)
            refine wpQuiet_nil ?_
            refine planAct_some (fun K hK => ?_)
            go_simp
            refine (hcall _).mono ?_
            rintro e wa ⟨rfl, hba⟩
            go_wp2_with fail
            refine hK.out _ _ ⟨⟨_, (bnext (brefl W3).drew hba)⟩, rfl⟩ ?_
            clear hK K
            refine wpPlan_last ?_
            simp only [pickOps, List.getElem?_cons_succ, List.getElem?_cons_zero, Option.elim_some]
            repeat (go_big_quiet_step (fail))
            refine wpQuiet_nil ?_
            refine NoPanic.normal ?_
            clear hX hzz0 hzz1
            have hb2 := bnext (brefl W3).drew hba
            clear hba hcall
            go_wp2_with fail
            go_roundg (gk - 1)
            case measure => omega
            case rel => exact ⟨k + 1, m, A', c', by omega, by go_num, by rw [Hid, HF.out]; exact hm.out, by rw [HF.out]; exact own_below own hb2, C0.below_ hb2, C1.below_ hb2, C2.below_ hb2, P2.below hb2, Nat.le_trans hBr hb2.size, bnext kb hb2⟩
          | true =>
            rw [hk0] at hcall
            have HF : Hid ((es.take (k + 1)).filter (fun e => stAb c lv e.th) = (es.take k).filter (fun e => stAb c lv e.th) ++ [e]) := by rw [Hid, HS.out, stAb, hk0]; simp
            clear hk0
            have hX := @Ext.cell W3
            have hzz0 := block_lt_of_cell c22
            have hzz1 := block_lt_of_cell ce
            refine wp_region_noPanic ?_
            refine wp_region_plan (fun w' => ∃ x : Ext W3, w' = x.w) [([0, 1, 2, 3, 4, 5, 6, 7, 8, 10], 9)] [11] (by kernel_rfl) (by kernel_rfl) (by kernel_rfl) (fun _ _ _ _ _ h => h) ⟨⟨_, (brefl W3).drew⟩, rfl⟩ ?_
            refine wpPlan_cons ?_
            simp only [pickOps, List.getElem?_cons_succ, List.getElem?_cons_zero, Option.elim_some]
            go_big_quiet_step (fail)
            refine wpQuiet_load_mid rfl 24 (.tmp 38) rfl w.heap.size (0) rfl [.int .i64 c.lv, .int .i64 c.th, .int .i64 c.o0, .int .i64 c.o1, .int .i64 c.o2, .int .i64 c.o3, .int .i64 c.o4, .int .i64 c.o5, .int .i64 c.o6, .int .i64 c.o7, .int .i64 c.sl, .int .i64 c.li, .int .i64 c.ge, .int .i64 c.qu] _ (range_ext r0) Try.underlying24 rfl (by kernel_rfl) ?_; simp only [Act.put, List.setIfInBounds_toArray, List.set_cons_succ, List.set_cons_zero]
            go_big_quiet_step (fail)
            go_big_quiet_step (fail)
            go_big_quiet_step (fail)
            go_big_quiet_step (fail)
            go_big_quiet_step (fail)
            go_big_quiet_step (fail)
            go_big_quiet_step (fail)
            go_big_quiet_step (fail)
            refine wpQuiet_nil ?_
            refine planAct_some (fun K hK => ?_)
            go_simp
            refine (hcall _).mono ?_
            rintro e wa ⟨rfl, hba⟩
            go_wp2_with fail
            refine hK.out _ _ ⟨⟨_, (bnext (brefl W3).drew hba)⟩, rfl⟩ ?_
            clear hK K
            refine wpPlan_last ?_
            simp only [pickOps, List.getElem?_cons_succ, List.getElem?_cons_zero, Option.elim_some]
            repeat (go_big_quiet_step (fail))
            refine wpQuiet_nil ?_
            refine NoPanic.normal ?_
            clear hX hzz0 hzz1
            have hb2 := bnext (brefl W3).drew hba
            clear hba hcall
            have own2 := own_below own hb2
            have D0 := C0.below_ hb2
            have D1 := C1.below_ hb2
            have D2 := C2.below_ hb2
            have P3 := P2.below hb2
            have kb2 := bnext kb hb2
            have hB2 := Nat.le_trans hBr hb2.size
            have HV8 := Lib.hid P3.u8
            have x22 := keep_below c22 hb2
            have y22 : wa.cell? ⟨w.heap.size + 1 + 1, 22, none⟩ = some (.slice A' m c') := (D2.cell 22).trans (by rw [List.getElem?_toArray]; exact scc_last HV8.out)
            have hrg2 : wa.rangeAt b (o' + k * 2) [.int .i64 e.th, .int .i64 e.wh] := fun j v hj => keep_below (hrg j v hj) hb2
            obtain ⟨q, hqB, hq⟩ := own_q own2
            have hn0 : w.heap.size ≠ q := by omega
            have hn2 : w.heap.size + 1 + 1 ≠ q := by omega
            have hnb : b ≠ q := by omega
            have zb := D2.lt
            have z2 := D0.lt
            clear C0 C1 C2 P2 own kb hBr r0 hrg c22 ce z0 hb2
            obtain ⟨W4, hW4⟩ : ∃ W4, W4 = wa := ⟨_, rfl⟩
            subst hW4
            go_upto_region 11 with (fail)
            have hX := @ExtK.cell (q) W4
            have hzz0 := block_lt_of_cell x22
            have hzz1 := block_lt_of_cell y22
            refine wp_region_noPanic ?_
            refine wp_region_last (fun w' => ∃ x : ExtK (q) W4, w' = x.w) 10 (PG.one [0, 1, 2, 3, 4, 5, 6] 7 (PG.one [] 8 (PG.fin [9]))) (by kernel_rfl) (by kernel_rfl) (by kernel_rfl) (fun _ _ _ _ _ h => h) ⟨⟨_, (Keeps.refl _ W4).drew⟩, rfl⟩ ?_
            refine wpG_one ?_
            simp only [pickOps, List.getElem?_cons_succ, List.getElem?_cons_zero, Option.elim_some]
            go_big_quiet_step (fail)
            go_big_quiet_step (fail)
            go_big_quiet_step (fail)
            go_big_quiet_step (fail)
            go_big_quiet_step (fail)
            go_big_quiet_step (fail)
            refine wpQuiet_load_mid rfl 42 (.tmp 55) rfl b (o' + k * 2) rfl [.int .i64 e.th, .int .i64 e.wh] _ (range_extk hrg2 hnb) Try.underlying42 rfl (by kernel_rfl) ?_; simp only [Act.put, List.setIfInBounds_toArray, List.set_cons_succ, List.set_cons_zero]
            refine wpQuiet_nil ?_
            refine planAct_some (fun K hK => ?_)
            go_simp
            refine hK.out _ _ (extk_mem ((Keeps.refl _ W4).drew.alloc _)) ?_
            clear hK K
            refine wpG_one ?_
            simp only [pickOps, List.getElem?_cons_succ, List.getElem?_cons_zero, Option.elim_some]
            repeat (go_big_quiet_step (fail))
            refine wpQuiet_nil ?_
            refine planAct_some (fun K hK => ?_)
            refine step_app (ys := [.int .i64 e.th, .int .i64 e.wh]) (m := 1) E2 rfl (.tmp 51) (.tmp 57) rfl B rfl (own2.alloc _ :) rfl rfl (Rd.new _ _ _ rfl) (by simp [Value.oneCell']) (by unfold maxLen; omega) (by omega) (by simp; omega) ?_
            intro A8 c8 w8 own8 hg8 _
            go_simp
            refine hK.out _ _ (extk_mem (((Keeps.refl _ W4).drew.alloc _).grown hg8 (fun k' q1 _ => hq k' q1))) ?_
            clear hK K
            have G0 := (D0.alloc (.cells #[.int .i64 e.th, .int .i64 e.wh] 42)).drew.grown hg8 (fun q1 => own_ne_blk own2 D0 (by decide) q1.symm)
            have G1 := (D1.alloc (.cells #[.int .i64 e.th, .int .i64 e.wh] 42)).drew.grown hg8 (fun q1 => own_ne_blk own2 D1 (by decide) q1.symm)
            have G2 := (D2.alloc (.cells #[.int .i64 e.th, .int .i64 e.wh] 42)).drew.grown hg8 (fun q1 => own_ne_blk own2 D2 (by decide) q1.symm)
            have f8 := G2.frozen 22
            have v8 : w8.cell? ⟨w.heap.size + 1 + 1, 22, none⟩ = some (.slice A' m c') := (G2.cell 22).trans (by rw [List.getElem?_toArray]; exact scc_last HV8.out)
            have z8 := G2.lt
            refine wpG_fin ?_
            simp only [pickOps, List.getElem?_cons_succ, List.getElem?_cons_zero, Option.elim_some]
            repeat (go_big_quiet_step (fail))
            refine wpQuiet_nil ?_
            refine lastG_some (fun K hK => ?_)
            go_simp
            refine hK.out _ _ ?_
            clear hK K
            refine NoPanic.normal ?_
            clear hX hzz0 hzz1
            have kk8 := ((((Keeps.refl (fun b => w.heap.size ≤ b) W4).alloc (.cells #[.int .i64 e.th, .int .i64 e.wh] 42)).drew).grown hg8 (fun k' q1 hk' => by have := own_ge own2 k' q1; show _ ≤ _; omega)).setCell (p := ⟨w.heap.size + 1 + 1, 22, none⟩) (fun _ => by show w.heap.size ≤ w.heap.size + 1 + 1; omega) (.slice A8 (m + 1) c8)
            have hb8 := ((bnew kb2 (.cells #[.int .i64 e.th, .int .i64 e.wh] 42)).drew.grown hg8 (le_alloc kb2 :) (fun k' q1 => Nat.le_trans (by omega) (own_ge own2 k' q1)))
            have hB8 : B ≤ w8.heap.size := Nat.le_trans hB2 (Nat.le_trans (by simp) hg8.size)
            have P8 := P3.keeps kk8
            clear D0 D1 D2 P3 x22 y22 hrg2 hn0 hn2 hnb kk8
            go_wp2_with fail
            go_roundg (gk - 1)
            case measure => omega
            case rel =>
              refine ⟨k + 1, m + 1, A8, c8, by omega, by go_num, ?_, ?_, G0.far (p := ⟨w.heap.size + 1 + 1, 22, none⟩) (by dsimp only; omega) _, G1.far (p := ⟨w.heap.size + 1 + 1, 22, none⟩) (by dsimp only; omega) _, ?_, P8, by simpa [World.setCell] using hB8, bset hb8 (p := ⟨w.heap.size + 1 + 1, 22, none⟩) (by dsimp only; omega) _⟩
              · rw [Hid, HF.out, hm.out]; simp
              · rw [HF.out, List.flatMap_append]
                exact ((Keeps.refl (fun b => b = w.heap.size + 1 + 1) w8).setCell (p := ⟨w.heap.size + 1 + 1, 22, none⟩) (fun _ => rfl) _).own own8 (fun k' q1 q2 => own_ne_blk own8 G2 (by decide) (by rw [q1, q2]))
              · rw [← scc_setl HV8.out, ← List.setIfInBounds_toArray]
                exact G2.set_ _ _
        · have hge : ¬ ((k : Int) < (en : Int)) := by omega
          have hke : es.take k = es := List.take_of_length_le (by omega)
          rw [hke] at hm own
          have hv8 := P2.u8
          have hinf := info_scc (c := c) (us := vs) (ev := .slice A' m c') hv8
          have hold : (scc cf0 nil8 (.slice none 0 0)).toArray.size = (scc c vs (.slice A' m c')).toArray.size := by rw [List.size_toArray, List.size_toArray, scc_len hv8, scc_len rfl]
          have hone := scc_one (c := c) P2 A' m c'
          have HM := hm
          clear hk hlt hke hm hv8
          have tok1 : True := trivial; have tok2 : True := trivial
          go_wp2_with (first | (have _t := tok1; refine wpList_load_row (o := ⟨some 60, _, _, _, _, _⟩) rfl 29 (.tmp 7) rfl (w.heap.size + 1 + 1) rfl 29 _ _ _ C2 Try.underlying29 rfl hinf ?_; clear tok1 _t) | (have _t := tok2; refine wpList_store_row (o := ⟨none, .store 29 (.tmp 6) (.tmp 60), _, _, _, _⟩) rfl 29 (.tmp 6) (.tmp 60) rfl (w.heap.size + 1) _ rfl rfl 29 _ C1 hinf hold hone ?_; clear tok2 _t))
          have kr := keeps_row wr (w.heap.size + 1) (scc c vs (.slice A' m c')).toArray
          refine bodyPost_ret (v := .agg (scc c vs (.slice A' m c')).toArray) (results_cell_row rfl _ _ (w.heap.size + 1) 29 _ _ _ rfl (C1.row _) Try.underlying29 rfl hinf) rfl ⟨vs, A', m, c', rfl, (P2.keeps (kr.mono fun b h _ => by show _ ≤ _; omega)).weak (fun b h => h.elim), ?_, kr.below kb kb.size (fun y hy _ => by omega)⟩
          have own' := kr.own own (fun k' q1 q2 => own_ne_blk own C1 (by decide) (by rw [q1, q2]))
          exact Sl.of_own enc__len (by decide) own'
end Go.Proofs.Ytijffncgokcidaa
