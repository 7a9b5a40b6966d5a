/- Scripts: what goes of one. -/
import Derived.Test.YtijffncgokcidaaPurgeC
namespace Go.Proofs.Ytijffncgokcidaa
set_option linter.unusedVariables false
set_option linter.unusedSimpArgs false
open Go.RowKit

set_option maxHeartbeats 4000000 in
set_option maxRecDepth 100000 in
theorem keep_ab {w : World} {c : Cf} {us : List Value} {ps : List (List CV)} {EA : Option Addr} {en ec : Nat} {es : List En} {q1 q2 : Nat} {st : Int → Bool} (hP : PIn (fun _ => False) w us ps) (hE : Sl enc_ w EA en ec es) (hen : en ≤ 1000000) (hre : ∀ l, l ∈ ps → l.length * 56 ≤ 140737488351232)
    (hst : ∀ (W : World) (t : Int), Below w.heap.size w W → Calls Try.prog 21 #[.int .i64 t, .pointer (some ⟨q1, 0, none⟩), .pointer (some ⟨q2, 0, none⟩)] W fun e w' => e = .returned (.bool (st t)) ∧ Below W.heap.size W w') :
    Calls Try.prog 17 #[.agg (scc c us (.slice EA en ec)).toArray, .func (.func 21) #[] #[.pointer (some ⟨q1, 0, none⟩), .pointer (some ⟨q2, 0, none⟩)]] w fun e w' => ∃ us' A m d, e = .returned (.agg (scc c us' (.slice A m d)).toArray) ∧ PIn (fun b => b < w.heap.size) w' us' (psK st ps 8) ∧ Sl enc_ w' A m d (es.filter fun e => st e.th) ∧ (∀ ad, A = some ad → w.heap.size ≤ ad.block) ∧ Below w.heap.size w w' := by
  obtain ⟨i0, E7⟩ := elem_cv
  obtain ⟨i1, E2⟩ := elem_en
  have h8 := hP.u8
  have hlen := hE.len
  go_enter Try.func17, Try.ntmps17
  go_upto_region 1 with (fail)
  obtain ⟨W0, hW0, B0, B1, kb, hz0⟩ : ∃ W0, (w.alloc (.cells (scc c us (.slice EA en ec)).toArray 29)).alloc (.cells #[.int .i64 0, .int .i64 0, .int .i64 0, .int .i64 0, .int .i64 0, .int .i64 0, .int .i64 0, .int .i64 0, .int .i64 0, .int .i64 0, .int .i64 0, .int .i64 0, .int .i64 0, .int .i64 0, .slice none 0 0, .slice none 0 0, .slice none 0 0, .slice none 0 0, .slice none 0 0, .slice none 0 0, .slice none 0 0, .slice none 0 0, .slice none 0 0] 29) = W0 ∧ Blk W0 w.heap.size 29 (scc c us (.slice EA en ec)).toArray ∧ Blk W0 (w.heap.size + 1) 29 (scc cf0 nil8 (.slice none 0 0)).toArray ∧ Below w.heap.size w W0 ∧ W0.heap.size = w.heap.size + 1 + 1 := ⟨_, rfl, (Blk.new _ _ _).alloc _, by have := Blk.new (w.alloc (.cells (scc c us (.slice EA en ec)).toArray 29)) 29 (scc cf0 nil8 (.slice none 0 0)).toArray; rwa [World.size_alloc] at this, bnew (bnew (brefl w) _) _, by simp⟩
  rw [hW0]
  clear hW0
  have r0 : W0.rangeAt w.heap.size 0 [.int .i64 c.lv, .int .i64 c.th, .int .i64 c.o0, .int .i64 c.o1, .int .i64 c.o2, .int .i64 c.o3, .int .i64 c.o4, .int .i64 c.o5, .int .i64 c.o6, .int .i64 c.o7, .int .i64 c.sl, .int .i64 c.li, .int .i64 c.ge, .int .i64 c.qu] := range_blk B0 0 (scc_conf c us _)
  have HZ0 := Lib.hid hz0
  clear hz0
  go_upto_region 2 with (first | (refine wpList_load_mid (op := ⟨some 11, _, _, _, _, _⟩) rfl 24 (.tmp 10) rfl w.heap.size 0 rfl [.int .i64 c.lv, .int .i64 c.th, .int .i64 c.o0, .int .i64 c.o1, .int .i64 c.o2, .int .i64 c.o3, .int .i64 c.o4, .int .i64 c.o5, .int .i64 c.o6, .int .i64 c.o7, .int .i64 c.sl, .int .i64 c.li, .int .i64 c.ge, .int .i64 c.qu] _ r0 Try.underlying24 rfl (by kernel_rfl) ?_) | (refine wpList_store_row (o := ⟨none, .store 29 (.tmp 5) (.tmp 12), _, _, _, _⟩) rfl 29 (.tmp 5) (.tmp 12) rfl W0.heap.size _ rfl rfl 29 _ (Blk.new W0 _ _) (by kernel_rfl) (by simp) (by simp [Value.oneCell']) ?_))
  obtain ⟨W1, hW1, C0, C1, C2, kb1⟩ : ∃ W1, (W0.alloc (.cells #[.int .i64 0, .int .i64 0, .int .i64 0, .int .i64 0, .int .i64 0, .int .i64 0, .int .i64 0, .int .i64 0, .int .i64 0, .int .i64 0, .int .i64 0, .int .i64 0, .int .i64 0, .int .i64 0, .slice none 0 0, .slice none 0 0, .slice none 0 0, .slice none 0 0, .slice none 0 0, .slice none 0 0, .slice none 0 0, .slice none 0 0, .slice none 0 0] 29)).setRow W0.heap.size #[.int .i64 c.lv, .int .i64 c.th, .int .i64 c.o0, .int .i64 c.o1, .int .i64 c.o2, .int .i64 c.o3, .int .i64 c.o4, .int .i64 c.o5, .int .i64 c.o6, .int .i64 c.o7, .int .i64 c.sl, .int .i64 c.li, .int .i64 c.ge, .int .i64 c.qu, .slice none 0 0, .slice none 0 0, .slice none 0 0, .slice none 0 0, .slice none 0 0, .slice none 0 0, .slice none 0 0, .slice none 0 0, .slice none 0 0] = W1 ∧ Blk W1 w.heap.size 29 (scc c us (.slice EA en ec)).toArray ∧ Blk W1 (w.heap.size + 1) 29 (scc cf0 nil8 (.slice none 0 0)).toArray ∧ Blk W1 (w.heap.size + 1 + 1) 29 (scc c nil8 (.slice none 0 0)).toArray ∧ Below w.heap.size w W1 := by
    have hz := HZ0.out
    have kr := keeps_row (W0.alloc (.cells #[.int .i64 0, .int .i64 0, .int .i64 0, .int .i64 0, .int .i64 0, .int .i64 0, .int .i64 0, .int .i64 0, .int .i64 0, .int .i64 0, .int .i64 0, .int .i64 0, .int .i64 0, .int .i64 0, .slice none 0 0, .slice none 0 0, .slice none 0 0, .slice none 0 0, .slice none 0 0, .slice none 0 0, .slice none 0 0, .slice none 0 0, .slice none 0 0] 29)) W0.heap.size #[.int .i64 c.lv, .int .i64 c.th, .int .i64 c.o0, .int .i64 c.o1, .int .i64 c.o2, .int .i64 c.o3, .int .i64 c.o4, .int .i64 c.o5, .int .i64 c.o6, .int .i64 c.o7, .int .i64 c.sl, .int .i64 c.li, .int .i64 c.ge, .int .i64 c.qu, .slice none 0 0, .slice none 0 0, .slice none 0 0, .slice none 0 0, .slice none 0 0, .slice none 0 0, .slice none 0 0, .slice none 0 0, .slice none 0 0]
    have b0 := B0.lt
    have b1 := B1.lt
    refine ⟨_, rfl, kr.blk (B0.alloc _) (by omega), kr.blk (B1.alloc _) (by omega), ?_, kr.below (bnew kb _) (by simp; omega) (fun x hx _ => by omega)⟩
    have h2 := (Blk.new W0 29 #[.int .i64 0, .int .i64 0, .int .i64 0, .int .i64 0, .int .i64 0, .int .i64 0, .int .i64 0, .int .i64 0, .int .i64 0, .int .i64 0, .int .i64 0, .int .i64 0, .int .i64 0, .int .i64 0, .slice none 0 0, .slice none 0 0, .slice none 0 0, .slice none 0 0, .slice none 0 0, .slice none 0 0, .slice none 0 0, .slice none 0 0, .slice none 0 0]).row #[.int .i64 c.lv, .int .i64 c.th, .int .i64 c.o0, .int .i64 c.o1, .int .i64 c.o2, .int .i64 c.o3, .int .i64 c.o4, .int .i64 c.o5, .int .i64 c.o6, .int .i64 c.o7, .int .i64 c.sl, .int .i64 c.li, .int .i64 c.ge, .int .i64 c.qu, .slice none 0 0, .slice none 0 0, .slice none 0 0, .slice none 0 0, .slice none 0 0, .slice none 0 0, .slice none 0 0, .slice none 0 0, .slice none 0 0]
    rw [hz] at h2 ⊢
    exact h2
  rw [hW1, HZ0.out]
  clear HZ0
  have r1 : W1.rangeAt w.heap.size 14 us := range_blk C0 14 scc_ps
  have hi8 : (Try.prog.info? 26).map (·.size) = some us.length := by rw [h8]; kernel_rfl
  clear hW1 B0 B1 kb r0
  go_upto_region 3 with (refine wpList_load_mid (op := ⟨some 14, _, _, _, _, _⟩) rfl 26 (.tmp 13) rfl w.heap.size 14 rfl us _ r1 Try.underlying26 rfl hi8 ?_)
  clear r1 hi8
  generalize Value.agg #[.int .i64 c.lv, .int .i64 c.th, .int .i64 c.o0, .int .i64 c.o1, .int .i64 c.o2, .int .i64 c.o3, .int .i64 c.o4, .int .i64 c.o5, .int .i64 c.o6, .int .i64 c.o7, .int .i64 c.sl, .int .i64 c.li, .int .i64 c.ge, .int .i64 c.qu] = V11
  generalize Value.agg #[.int .i64 c.lv, .int .i64 c.th, .int .i64 c.o0, .int .i64 c.o1, .int .i64 c.o2, .int .i64 c.o3, .int .i64 c.o4, .int .i64 c.o5, .int .i64 c.o6, .int .i64 c.o7, .int .i64 c.sl, .int .i64 c.li, .int .i64 c.ge, .int .i64 c.qu, .slice none 0 0, .slice none 0 0, .slice none 0 0, .slice none 0 0, .slice none 0 0, .slice none 0 0, .slice none 0 0, .slice none 0 0, .slice none 0 0] = V12
  generalize hV0 : Value.agg (scc c us (.slice EA en ec)).toArray = V0
  clear hV0
  go_loopg [15] 8 (fun gk i wr => ∃ (k : Nat) (vs : List Value), k + gk = 8 ∧ i = .int .i64 k ∧ Blk wr w.heap.size 29 (scc c us (.slice EA en ec)).toArray ∧ Blk wr (w.heap.size + 1) 29 (scc cf0 nil8 (.slice none 0 0)).toArray ∧ Blk wr (w.heap.size + 1 + 1) 29 (scc c vs (.slice none 0 0)).toArray ∧ PIn (sB (w.heap.size + 1) (w.heap.size + 1 + 1) w.heap.size) wr vs (psK st ps k) ∧ PLt wr vs ∧ Below w.heap.size w wr)
  case atStart => exact ⟨0, nil8, by omega, rfl, C0, C1, C2, PIn.nil _ _ _ _, PLt.nil _, kb1⟩
  case round =>
    clear C0 C1 C2 kb1
    obtain ⟨k, vs, hk, rfl, C0, C1, C2, P2, L2, kb⟩ := hrel
    by_cases hlt : k < 8
    · obtain ⟨l, hl⟩ : ∃ l, ps[k]? = some l := ⟨ps[k]'(by have := hP.p8; omega), List.getElem?_eq_getElem (i := k) _⟩
      obtain ⟨A, n, c', hu, hs, _⟩ := hP.at_ k l hl
      have hix := idx_us h8 hu
      have b0 : (0 : Int) ≤ (k : Int) := by omega
      have b1 : (k : Int) < 8 := by omega
      have hcall := hst _ (k : Int) kb
      have hln := hs.len
      have hle := hre l (List.mem_of_getElem? hl)
      have HL : Hid (ps.getD k [] = l) := by rw [Hid, List.getD_eq_getElem?_getD, hl]; rfl
      rw [hln] at hle
      have HN := Lib.hid hln
      have HV8 := Lib.hid P2.u8
      clear hu hl hln
      cases hk0 : st (k : Int) with
      | false =>
        rw [hk0] at hcall
        have HK := Lib.hid hk0
        clear hk0
        go_wp2_with (go_at_call 21; refine hcall.mono ?_; rintro e w2 ⟨rfl, hb2⟩)
        go_roundg (gk - 1)
        case measure => omega
        case rel => exact ⟨k + 1, vs, by omega, by go_num, C0.below_ hb2, C1.below_ hb2, C2.below_ hb2, by rw [psK_no _ _ _ HK.out]; exact P2.below hb2, L2.mono hb2.size, bnext kb hb2⟩
      | true =>
        rw [hk0] at hcall
        have HK := Lib.hid hk0
        clear hk0
        go_upto_region 6 with (go_at_call 21; refine hcall.mono ?_; rintro e w2 ⟨rfl, hb2⟩)
        have C0 := C0.below_ hb2
        have C1 := C1.below_ hb2
        have C2 := C2.below_ hb2
        have kk := Keeps.of_below (S := sB (w.heap.size + 1) (w.heap.size + 1 + 1) w.heap.size) hb2
        have kb2 := bnext kb hb2
        have hz := hb2.size
        have z0 := C0.lt
        have z1 := C1.lt
        have z2 := C2.lt
        have hs2 := hs.below kb2
        have hvk : ∃ u, w2.cell? ⟨w.heap.size + 1 + 1, 14 + k, none⟩ = some u := ⟨_, (C2.cell _).trans (by rw [List.getElem?_toArray]; exact scc_get (List.getElem?_eq_getElem (by rw [HV8.out]; exact hlt)))⟩
        clear hcall hb2
        go_wp2_with (at_builtin; refine wpList_fresh (W0 := w) (ys := l.flatMap cvc) E7 rfl (.tmp 23) (.tmp 24) rfl (bnew kb2 _) rfl (own_empty kb2 rfl) rfl (by rw [flat_len cvc_len, HN.out]) (hs2.rd.alloc _) (cvc_one l) (by unfold maxLen; omega) (by omega) ?_; intro A8 c8 w8 own8 hb8 hg8; have D0 := (C0.alloc _).grown hg8 (by intro e; injection e with e; omega); have D1 := (C1.alloc _).grown hg8 (by intro e; injection e with e; omega); have D2 := (C2.alloc _).grown hg8 (by intro e; injection e with e; omega); have kk8 := (kk.alloc _).grown hg8 (fun k' e hk' => by cases e; omega); have f8 := D2.frozen (14 + k); obtain ⟨u8, v8⟩ : ∃ u, w8.cell? ⟨w.heap.size + 1 + 1, 14 + k, none⟩ = some u := ⟨_, (D2.cell _).trans (by rw [List.getElem?_toArray]; exact scc_get (List.getElem?_eq_getElem (by rw [HV8.out]; exact hlt)))⟩; clear C0 C1 C2 kk hvk hs2)
        go_roundg (gk - 1)
        case measure => omega
        case rel =>
          refine ⟨k + 1, vs.set k (.slice A8 n c8), by omega, by go_num, D0.far (p := ⟨w.heap.size + 1 + 1, 14 + k, none⟩) (by dsimp only; omega) _, D1.far (p := ⟨w.heap.size + 1 + 1, 14 + k, none⟩) (by dsimp only; omega) _, ?_, ?_, PLt.put ((L2.mono (Nat.le_trans hz (Nat.le_trans (by simp) hg8.size))).mono (by simp [World.setCell])) k (fun ad e => by have := (own_block own8 ad e).2.2; simpa [World.setCell] using this), bset hb8 (p := ⟨w.heap.size + 1 + 1, 14 + k, none⟩) (by dsimp only; omega) _⟩
          · rw [← scc_set (by rw [HV8.out]; exact hlt), ← List.setIfInBounds_toArray]
            exact D2.set_ _ _
          · refine PIn.put (P2.keeps (kk8.setCell (p := ⟨w.heap.size + 1 + 1, 14 + k, none⟩) (fun _ => .inr (.inl rfl)) _)) hlt HK.out ?_ ?_
            · rw [HL.out]
              exact (Sl.of_own cvc_len (by decide) own8).setCell (p := ⟨w.heap.size + 1 + 1, 14 + k, none⟩) (own_fl own8 D2 (by decide)) _
            · intro ad e _ q
              rcases q with q | q | q
              · exact own_fl own8 D1 (by decide) ad e q
              · exact own_fl own8 D2 (by decide) ad e q
              · have := (own_block own8 ad e).2.1
                omega
    · have hge : ¬ ((k : Int) < 8) := by omega
      obtain rfl : k = 8 := by omega
      have c22 : wr.cell? ⟨w.heap.size, 22, none⟩ = some (.slice EA en ec) := (C0.cell 22).trans (by rw [List.getElem?_toArray]; exact scc_last h8)
      have z0 := C0.lt
      have P2 := P2.more L2
      obtain ⟨B, hB⟩ : ∃ B, wr.heap.size = B := ⟨_, rfl⟩
      have hBw : w.heap.size + 1 + 1 < B := by have := C2.lt; omega
      have hBr : B ≤ wr.heap.size := by omega
      rw [hB] at P2
      clear hlt hk C0 hB L2
      go_upto_region 9 with (fail)
      clear c22 z0 hge
      generalize Value.agg us.toArray = V14
      go_wp2_with fail
      go_loopg [32] en (fun gk i wr => ∃ (k m : Nat) (A' : Option Addr) (c' : Nat), k + gk = en ∧ i = .int .i64 k ∧ Hid (m = ((es.take k).filter fun e => st e.th).length) ∧ wr.ownsRow B 42 2 (.slice A' m c') m (((es.take k).filter fun e => st e.th).flatMap enc_) ∧ Blk wr (w.heap.size + 1) 29 (scc cf0 nil8 (.slice none 0 0)).toArray ∧ Blk wr (w.heap.size + 1 + 1) 29 (scc c vs (.slice A' m c')).toArray ∧ PIn (fun b => sB (w.heap.size + 1) (w.heap.size + 1 + 1) w.heap.size b ∨ B ≤ b) wr vs (psK st ps 8) ∧ B ≤ wr.heap.size ∧ Below w.heap.size w wr)
      case atStart => exact ⟨0, 0, none, 0, by omega, rfl, rfl, World.ownsRow_nil _ _ _ _, C1, C2, P2, hBr, kb⟩
      case round =>
        clear C1 C2 P2 kb hBr
        obtain ⟨k, m, A', c', hk, rfl, hm, own, C1, C2, P2, hBr, kb⟩ := hrel
        by_cases hlt : k < en
        · obtain ⟨b, o', rfl, _, _⟩ := hE.base enc__len (by decide) (by omega)
          obtain ⟨e, he⟩ : ∃ e, es[k]? = some e := ⟨es[k]'(by omega), List.getElem?_eq_getElem (i := k) _⟩
          have hrg : wr.rangeAt b (o' + k * 2) [.int .i64 e.th, .int .i64 e.wh] := range_sl enc__len (hE.below kb) he
          have b0 : (0 : Int) ≤ (k : Int) := by omega
          have b1 : (k : Int) < (en : Int) := by omega
          have hmk : m ≤ k := by
            have h1 := hm.out
            have h2 := List.length_filter_le (fun e : En => st e.th) (es.take k)
            have h3 := List.length_take_le k es
            omega
          have HS : Hid ((es.take (k + 1)).filter (fun e => st e.th) = (es.take k).filter (fun e => st e.th) ++ (if st e.th = true then [e] else [])) := by
            rw [Hid, List.take_add_one, he, List.filter_append]
            congr 1
            by_cases h : st e.th = true <;> simp [h]
          clear he
          go_upto_region 11 with (refine wpList_load_mid (op := ⟨some 35, _, _, _, _, _⟩) rfl 42 (.tmp 34) rfl b (o' + k * 2) rfl [.int .i64 e.th, .int .i64 e.wh] _ hrg Try.underlying42 rfl (by kernel_rfl) ?_)
          obtain ⟨W1, hW1, hE1, own1, D1, D2, P3, hB1, kb1⟩ : ∃ W1, wr.alloc (.cells #[.int .i64 e.th, .int .i64 e.wh] 42) = W1 ∧ Blk W1 wr.heap.size 42 #[.int .i64 e.th, .int .i64 e.wh] ∧ W1.ownsRow B 42 2 (.slice A' m c') m (((es.take k).filter fun e => st e.th).flatMap enc_) ∧ Blk W1 (w.heap.size + 1) 29 (scc cf0 nil8 (.slice none 0 0)).toArray ∧ Blk W1 (w.heap.size + 1 + 1) 29 (scc c vs (.slice A' m c')).toArray ∧ PIn (fun b => sB (w.heap.size + 1) (w.heap.size + 1 + 1) w.heap.size b ∨ B ≤ b) W1 vs (psK st ps 8) ∧ B ≤ W1.heap.size ∧ Below w.heap.size w W1 := ⟨_, rfl, Blk.new _ _ _, own.alloc _, C1.alloc _, C2.alloc _, P2.below (bnew (brefl wr) _), by simp; omega, bnew kb _⟩
          rw [hW1]
          clear hW1 own C1 C2 P2 kb hrg hBr
          generalize wr.heap.size = x at *
          have d0 : W1.cell? ⟨x, 0, none⟩ = some (.int .i64 e.th) := hE1.cell 0
          have zx := hE1.lt
          have hcall := hst _ e.th kb1
          cases hk0 : st e.th with
          | false =>
            rw [hk0] at hcall
            have HF : Hid ((es.take (k + 1)).filter (fun e => st e.th) = (es.take k).filter (fun e => st e.th)) := by rw [Hid, HS.out, hk0]; simp
            clear hk0
            go_wp2_with (go_at_call 21; refine hcall.mono ?_; rintro e w2 ⟨rfl, hb2⟩)
            go_roundg (gk - 1)
            case measure => omega
            case rel => exact ⟨k + 1, m, A', c', by omega, by go_num, by rw [Hid, HF.out]; exact hm.out, by rw [HF.out]; exact own_below own1 hb2, D1.below_ hb2, D2.below_ hb2, P3.below hb2, Nat.le_trans hB1 hb2.size, bnext kb1 hb2⟩
          | true =>
            rw [hk0] at hcall
            have HF : Hid ((es.take (k + 1)).filter (fun e => st e.th) = (es.take k).filter (fun e => st e.th) ++ [e]) := by rw [Hid, HS.out, hk0]; simp
            clear hk0
            go_upto_region 12 with (go_at_call 21; refine hcall.mono ?_; rintro e w2 ⟨rfl, hb2⟩)
            have own2 := own_below own1 hb2
            have D1 := D1.below_ hb2
            have D2 := D2.below_ hb2
            have P3 := P3.below hb2
            have hE2 := hE1.below_ hb2
            have kb2 := bnext kb1 hb2
            have hB2 := Nat.le_trans hB1 hb2.size
            have HV8 := Lib.hid P3.u8
            have c22 : w2.cell? ⟨w.heap.size + 1 + 1, 22, none⟩ = some (.slice A' m c') := (D2.cell 22).trans (by rw [List.getElem?_toArray]; exact scc_last HV8.out)
            have z2 := D2.lt
            have z1 := D1.lt
            clear own1 hE1 hb2 hcall d0 zx
            go_wp2_with (first | (refine wpList_load_row (o := ⟨some 42, _, _, _, _, _⟩) rfl 42 (.tmp 9) rfl x rfl 42 _ _ _ hE2 Try.underlying42 rfl (by kernel_rfl) ?_) | (at_builtin; refine wpList_app (ys := [.int .i64 e.th, .int .i64 e.wh]) (m := 1) E2 rfl (.tmp 41) (.tmp 43) rfl B rfl (own2.alloc _) rfl rfl (Rd.new _ _ _ rfl) (by simp [Value.oneCell']) (by unfold maxLen; omega) (by omega) (by simp; omega) ?_; intro A8 c8 w8 own8 hg8 _; have G1 := (D1.alloc _).grown hg8 (fun q => own_ne_blk own2 D1 (by decide) q.symm); have G2 := (D2.alloc _).grown hg8 (fun q => own_ne_blk own2 D2 (by decide) q.symm); have P8 := P3.keeps (((Keeps.refl _ w2).alloc _).grown hg8 (fun k' q hk' => .inr (own_ge own2 k' q))); have hb8 := (bnew kb2 (.cells #[.int .i64 e.th, .int .i64 e.wh] 42)).grown hg8 (bnew kb2 _).size (fun k' q => Nat.le_trans (by omega) (own_ge own2 k' q)); have hB8 := Nat.le_trans hB2 (Nat.le_trans (by simp) hg8.size); have f8 := G2.frozen 22; have v8 : w8.cell? ⟨w.heap.size + 1 + 1, 22, none⟩ = some (.slice A' m c') := (G2.cell 22).trans (by rw [List.getElem?_toArray]; exact scc_last HV8.out); clear D1 D2 P3 c22))
            go_roundg (gk - 1)
            case measure => omega
            case rel =>
              refine ⟨k + 1, m + 1, A8, c8, by omega, by go_num, ?_, ?_, G1.far (p := ⟨w.heap.size + 1 + 1, 22, none⟩) (by dsimp only; omega) _, ?_, P8.keeps ((Keeps.refl _ w8).setCell (p := ⟨w.heap.size + 1 + 1, 22, none⟩) (fun _ => .inl (.inr (.inl rfl))) _), by simpa [World.setCell] using hB8, bset hb8 (p := ⟨w.heap.size + 1 + 1, 22, none⟩) (by dsimp only; omega) _⟩
              · rw [Hid, HF.out, hm.out]; simp
              · rw [HF.out, List.flatMap_append]
                exact ((Keeps.refl (fun b => b = w.heap.size + 1 + 1) w8).setCell (p := ⟨w.heap.size + 1 + 1, 22, none⟩) (fun _ => rfl) _).own own8 (fun k' q1 q2 => own_ne_blk own8 G2 (by decide) (by rw [q1, q2]))
              · rw [← scc_setl HV8.out, ← List.setIfInBounds_toArray]
                exact G2.set_ _ _
        · have hge : ¬ ((k : Int) < (en : Int)) := by omega
          have hke : es.take k = es := List.take_of_length_le (by omega)
          rw [hke] at hm own
          have hv8 := P2.u8
          have hinf := info_scc (c := c) (us := vs) (ev := .slice A' m c') hv8
          have hold : (scc cf0 nil8 (.slice none 0 0)).toArray.size = (scc c vs (.slice A' m c')).toArray.size := by rw [List.size_toArray, List.size_toArray, scc_len hv8, scc_len rfl]
          have hone := scc_one (c := c) P2 A' m c'
          have HM := hm
          clear hk hlt hke hm hv8
          go_wp2_with (first | (refine wpList_load_row (o := ⟨some 47, _, _, _, _, _⟩) rfl 29 (.tmp 5) rfl (w.heap.size + 1 + 1) rfl 29 _ _ _ C2 Try.underlying29 rfl hinf ?_) | (refine wpList_store_row (o := ⟨none, .store 29 (.tmp 4) (.tmp 47), _, _, _, _⟩) rfl 29 (.tmp 4) (.tmp 47) rfl (w.heap.size + 1) _ rfl rfl 29 _ C1 hinf hold hone ?_))
          have kr := keeps_row wr (w.heap.size + 1) (scc c vs (.slice A' m c')).toArray
          refine bodyPost_ret (v := .agg (scc c vs (.slice A' m c')).toArray) (results_cell_row rfl _ _ (w.heap.size + 1) 29 _ _ _ rfl (C1.row _) Try.underlying29 rfl hinf) rfl ⟨vs, A', m, c', rfl, (P2.keeps (kr.mono fun b h _ => .inl (.inl h))).weak (fun b h => .inl (.inr (.inr h))), ?_, fun ad e => Nat.le_trans (by omega) (own_block own ad e).2.1, kr.below kb kb.size (fun y hy _ => by omega)⟩
          have own' := kr.own own (fun k' q1 q2 => own_ne_blk own C1 (by decide) (by rw [q1, q2]))
          exact Sl.of_own enc__len (by decide) own'
end Go.Proofs.Ytijffncgokcidaa
