/- Threads: the law ThreadOrders, its loops. -/
import Derived.Test.YtclhlgeicfhdiaaThreadP
namespace Go.Proofs.Ytclhlgeicfhdiaa
set_option linter.unusedVariables false
set_option linter.unusedSimpArgs false
open Go.RowKit

set_option maxHeartbeats 4000000 in
set_option maxRecDepth 100000 in
theorem orders_main {w : World} {A B : Option Addr} {n c m d : Nat} {ops : List TOp} {wl : List Int} (hl : Sl toc w A n c ops) (hop : ∀ o, o ∈ ops → Sl us w o.A o.rn o.rc o.l) (hw : Sl us w B m d wl) (hgf : gB n ops = false) (hm : m ≤ 60) : Calls Try.prog 3 #[.slice A n c, .slice B m d] w fun e w' => e = .returned (.bool true) ∧ Below w.heap.size w w' := by
  have hg := great_any hl
  obtain ⟨hn, hrn⟩ := gB_no hgf hl.len
  have hlen := hl.len
  have hwlen := hw.len
  rw [hgf] at hg
  have hm60 : ¬ ((60 : Int) < (m : Int)) := by omega
  clear hgf
  go_enter Try.func3, Try.ntmps3
  go_upto_region 4 with (first | (go_at_call 6; refine hg.mono ?_; rintro e wa ⟨rfl, rfl⟩) | (go_at_call 8; refine (new_any _).mono ?_; rintro e w1 ⟨rfl, h1, hb1⟩))
  clear hg
  go_wp2_with fail
  go_loopg [6] n (fun gk i wr => ∃ (k : Nat) (t : Th) (L : TL), k + gk = n ∧ i = .int .i64 k ∧ TBox wr w.heap.size w.heap.size t L ∧ Hid (t.frames.length ≤ k ∧ t.hs.length = cnt2 (ops.take k)) ∧ Below w.heap.size w wr)
  case atStart => exact ⟨0, th0, tl0, by omega, rfl, h1, ⟨Nat.le_refl _, rfl⟩, hb1⟩
  case round =>
    obtain ⟨k, t, L, hk, rfl, ht, HT, kb⟩ := hrel
    by_cases hlt : k < n
    · obtain ⟨b, o', rfl, _, hc⟩ := hl.base toc_len (by decide) (by omega)
      obtain ⟨x, hx⟩ : ∃ x, ops[k]? = some x := ⟨ops[k]'(by omega), List.getElem?_eq_getElem (i := k) _⟩
      have c0 : wr.cell? ⟨b, o' + k * 3, none⟩ = some (.int .i64 x.k) := keep_below (by have h0 := hc k x 0 _ hx rfl; simpa [Nat.add_assoc] using h0) kb
      have c1 : wr.cell? ⟨b, o' + k * 3 + 1, none⟩ = some (.int .i64 x.n) := keep_below (by have h0 := hc k x 1 _ hx rfl; simpa [Nat.add_assoc] using h0) kb
      have c2 : wr.cell? ⟨b, o' + k * 3 + 2, none⟩ = some (.slice x.A x.rn x.rc) := keep_below (by have h0 := hc k x 2 _ hx rfl; simpa [Nat.add_assoc] using h0) kb
      have b0 : (0 : Int) ≤ (k : Int) := by omega
      have b1 : (k : Int) < (n : Int) := by omega
      have hxm := List.mem_of_getElem? hx
      have hxs := hop x hxm
      have hc8 : cnt2 (ops.take k) ≤ k := by unfold cnt2; exact Nat.le_trans (List.length_filter_le _ _) (by simp; omega)
      have hT := HT.out
      have hdo := do_any ht (hxs.below kb) kb.size (fun ad h hne => by have := hxs.rd.lt (by rw [us_map]; simpa using hne) ad h; omega) (by omega) (by omega) (by have := hrn x hxm; omega) x.k x.n
      have HS : Hid (ops.take (k + 1) = ops.take k ++ [x]) := by rw [Hid, List.take_add_one, hx]; rfl
      clear hc hx hT hxs hc8 h1 hb1
      go_wp2_with (go_at_call 9; refine hdo.mono ?_; rintro e w2 ⟨rfl, hgo⟩)
      obtain ⟨L2, h2, kb2, _⟩ := Goes.up kb kb.size (Nat.le_refl _) ht hgo
      go_roundg (gk - 1)
      case measure => omega
      case rel =>
        refine ⟨k + 1, _, L2, by omega, by go_num, h2, ?_, kb2⟩
        have h3 := doo_len t x.k x.n x.l
        have h4 := HT.out
        rw [Hid, HS.out, cnt2_snoc]
        exact ⟨by omega, by omega⟩
    · have hge : ¬ ((k : Int) < (n : Int)) := by omega
      have hke : k = n := by omega
      have hT := HT.out
      rw [List.take_of_length_le (by omega)] at hT
      have hfl : t.frames.length ≤ 80 := by omega
      have hhl := hT.2
      have hc8 : cnt2 ops ≤ 80 := by unfold cnt2; exact Nat.le_trans (List.length_filter_le _ _) (by omega)
      have hd := deep_any ht
      clear hke hT HT hlt hk h1 hb1
      have HHL := Lib.hid hhl
      clear hhl
      go_upto_region 9 with (go_at_call 10; refine hd.mono ?_; rintro e w2 ⟨rfl, rfl⟩)
      obtain ⟨W2, rfl⟩ : ∃ W2, W2 = wr := ⟨_, rfl⟩
      clear hd hge
      go_wp2_with fail
      go_loopg [8, 9] n (fun gk q i wr => ∃ (k : Nat), k + gk = n ∧ i = .int .i64 k ∧ q = .int .i64 (cnt2 (ops.take k) : Nat) ∧ wr = W2)
      case atStart => exact ⟨0, by omega, rfl, rfl, rfl⟩
      case round =>
        obtain ⟨k, hk, rfl, rfl, rfl⟩ := hrel
        by_cases hlt : k < n
        · obtain ⟨b, o', rfl, _, hc⟩ := hl.base toc_len (by decide) (by omega)
          obtain ⟨x, hx⟩ : ∃ x, ops[k]? = some x := ⟨ops[k]'(by omega), List.getElem?_eq_getElem (i := k) _⟩
          have c0 : wr.cell? ⟨b, o' + k * 3, none⟩ = some (.int .i64 x.k) := keep_below (by have h0 := hc k x 0 _ hx rfl; simpa [Nat.add_assoc] using h0) kb
          have b0 : (0 : Int) ≤ (k : Int) := by omega
          have b1 : (k : Int) < (n : Int) := by omega
          have HS : Hid (cnt2 (ops.take (k + 1)) = cnt2 (ops.take k) + (if x.k = 2 then 1 else 0)) := by rw [Hid, List.take_add_one, hx, Option.toList_some, cnt2_snoc]
          have hck : cnt2 (ops.take k) ≤ k := by unfold cnt2; exact Nat.le_trans (List.length_filter_le _ _) (by simp; omega)
          generalize cnt2 (ops.take k) = C at *
          clear hc hx ht hl hop hw
          by_cases h2 : x.k = 2
          · have t0 : (x.k == 2) = true := by simp [h2]
            have H2 := Lib.hid h2
            clear h2
            go_wp2_with fail
            go_roundg (gk - 1)
            case measure => omega
            case rel => exact ⟨k + 1, by omega, by go_num, by rw [HS.out, if_pos H2.out]; go_num, rfl⟩
          · have t0 : (x.k == 2) = false := by simpa using h2
            have H2 := Lib.hid h2
            clear h2
            go_wp2_with fail
            go_roundg (gk - 1)
            case measure => omega
            case rel => exact ⟨k + 1, by omega, by go_num, by rw [HS.out, if_neg H2.out]; rfl, rfl⟩
        · have hge : ¬ ((k : Int) < (n : Int)) := by omega
          have htk : ops.take k = ops := List.take_of_length_le (by omega)
          rw [htk]
          clear htk hk hlt
          obtain ⟨C, HC⟩ : ∃ C, Hid (cnt2 ops = C) := ⟨_, rfl⟩
          rw [HC.out] at hc8 HHL ⊢
          go_wp2_with fail
          clear hge hop hl
          generalize hfr : t.frames = fr1 at *
          go_loopg [10] m (fun gk i wr' => ∃ (k : Nat) (t' : Th) (L' : TL), k + gk = m ∧ i = .int .i64 k ∧ TBox wr' w.heap.size w.heap.size t' L' ∧ Hid (t'.frames = fr1 ++ F3 wl k ∧ t'.hs.length = C + k) ∧ Below w.heap.size w wr')
          case atStart => exact ⟨0, t, L, by omega, rfl, ht, ⟨by rw [hfr]; simp [F3], by rw [HHL.out]; rfl⟩, kb⟩
          case round =>
            clear ht kb hfr HHL HC
            obtain ⟨k, t', L', hk, rfl, ht, HT, kb⟩ := hrel
            by_cases hlt : k < m
            · obtain ⟨b, o', rfl, hbw, hc⟩ := hw.base us_len (by decide) (by omega)
              obtain ⟨x, hx⟩ : ∃ x, wl[k]? = some x := ⟨wl[k]'(by omega), List.getElem?_eq_getElem (i := k) _⟩
              have c00 : w.cell? ⟨b, o' + k, none⟩ = some (.int .u64 x) := by have h0 := hc k x 0 _ hx rfl; simpa using h0
              have c0 := keep_below c00 kb
              have b0 : (0 : Int) ≤ (k : Int) := by omega
              have b1 : (k : Int) < (m : Int) := by omega
              have hT := HT.out
              have hfl3 : t'.frames.length = fr1.length + k := by rw [hT.1, List.length_append, F3_len]
              have hc2 := call_any (ht.below (bnew (brefl wr) (.cells #[.int .u64 x] 33))) (k : Int) (Sl.of_words (l := [x]) (n := 1) (c := 1) (Blk.new wr 33 _) rfl (Nat.le_refl _)) (by have := kb.size; simp; omega) (by omega) (by omega)
              have HX := Lib.hid hx
              clear hc hx hT
              go_upto_region 19 with (go_at_call 11; refine hc2.mono ?_; rintro e w2 ⟨rfl, hg2⟩)
              obtain ⟨L2, h2, kb2, _⟩ := Goes.up (bnew kb _) (by have := kb.size; simp; omega) (Nat.le_refl _) (ht.below (bnew (brefl wr) _)) hg2
              have c2 := keep_below c00 kb2
              have hn3 := note_any h2 x kb2.size (by have := HT.out.2; simp [Th.call]; omega)
              clear hc2 hg2 c0
              go_upto_region 20 with (go_at_call 12; refine hn3.mono ?_; rintro e w3 ⟨rfl, hg3⟩)
              obtain ⟨L3, h3, kb3, _⟩ := Goes.up kb2 kb2.size (Nat.le_refl _) h2 hg3
              have c3 := keep_below c00 kb3
              clear hn3 hg3 h2 kb2 c2 ht kb
              have hM : ((t'.call ⟨(k : Int), 0, pad 16 [x]⟩).note x).frames.length = (fr1.length + k) + 1 := by simp [Th.call, Th.note, hfl3]
              have hfq : ((t'.call ⟨(k : Int), 0, pad 16 [x]⟩).note x).frames[fr1.length + k]? = some ⟨(k : Int), 0, pad 16 [x]⟩ := by
                show (t'.frames ++ [_])[_]? = _
                rw [← hfl3]
                simp
              obtain ⟨q, hq, hbq⟩ := h3.fr _ _ hfq
              have hhd := fun (W : World) (h : TBox W w.heap.size w.heap.size ((t'.call ⟨(k : Int), 0, pad 16 [x]⟩).note x) L3) => handle_any h ((C : Int) + (k : Int) + 1) (by have := HT.out.2; simp [Th.call, Th.note]; omega)
              have hax : hAt ((t'.call ⟨(k : Int), 0, pad 16 [x]⟩).note x).hs ((C : Int) + (k : Int) + 1) = x := by
                have := hAt_last t'.hs x (C + k) HT.out.2
                rw [Int.natCast_add] at this
                exact this
              rw [hax] at hhd
              have hw1 : IntKind.i64.wrap ((C : Int) + (k : Int)) = (C : Int) + (k : Int) := IntWalk.i64_in _ (by omega)
              have hw2 : IntKind.i64.wrap ((C : Int) + (k : Int) + 1) = (C : Int) + (k : Int) + 1 := IntWalk.i64_in _ (by omega)
              have txx : (x != x) = false := by simp
              have cq1 : w3.cell? ⟨q, 1, none⟩ = some (.int .i64 0) := hbq.cell 1
              have fq1 := hbq.frozen 1
              have hzq := hbq.lt
              have htg := fun (W : World) (hk : Keeps (fun b => b = q) w3 W) => touch_goes h3 (i := fr1.length + k) (by rw [hM]; omega) hq ⟨(k : Int), (k : Int) + 1, pad 16 [x]⟩ (pad_len _ _) hk
              have HM := Lib.hid hM
              have HFL := Lib.hid hfl3
              obtain ⟨W3, hW3⟩ : ∃ W3, W3 = w3 := ⟨_, rfl⟩
              subst hW3
              clear hax hfq hfl3
              have hX := @Ext.cell W3
              have hzz0 := block_lt_of_cell c3
              refine wp_region_noPanic ?_
              refine wp_region_plan (fun w' => ∃ x : Ext W3, w' = x.w) [([0], 1), ([2, 3, 4, 5, 6, 7, 8, 10, 11, 12, 13], 9)] [14, 15] (by kernel_rfl) (by kernel_rfl) (by kernel_rfl) (fun _ _ _ _ _ h => h) ⟨⟨_, (brefl W3).drew⟩, rfl⟩ ?_
              refine wpPlan_cons ?_
              simp only [pickOps, List.getElem?_cons_succ, List.getElem?_cons_zero, Option.elim_some]
              repeat (go_big_quiet_step (fail))
              refine wpQuiet_nil ?_
              refine planAct_some (fun K hK => ?_)
              go_simp
              refine (top_some (h3.below (brefl W3).drew) hM hq (by omega)).mono ?_
              rintro e wa ⟨rfl, rfl⟩
              go_wp2_with fail
              refine hK.out _ _ ⟨⟨_, ((brefl W3).drew)⟩, rfl⟩ ?_
              clear hK K
              refine wpPlan_cons ?_
              simp only [pickOps, List.getElem?_cons_succ, List.getElem?_cons_zero, Option.elim_some]
              repeat (go_big_quiet_step (fail))
              refine wpQuiet_nil ?_
              refine planAct_some (fun K hK => ?_)
              go_simp
              refine (hhd _ (h3.below (brefl W3).drew)).mono ?_
              rintro e wb ⟨rfl, rfl⟩
              go_wp2_with fail
              refine hK.out _ _ ⟨⟨_, ((brefl W3).drew)⟩, rfl⟩ ?_
              clear hK K
              refine wpPlan_last ?_
              simp only [pickOps, List.getElem?_cons_succ, List.getElem?_cons_zero, Option.elim_some]
              repeat (go_big_quiet_step (fail))
              refine wpQuiet_nil ?_
              refine NoPanic.normal ?_
              clear hX hzz0
              have hM := HM.out
              have htop := top_some (h3.below (brefl W3).drew) hM hq (by omega)
              clear hM hhd
              go_wp2_with (go_at_call 13; refine htop.mono ?_; rintro e wd ⟨rfl, rfl⟩)
              have hgo4 := htg _ (keepq_set (keepq_drew (Keeps.refl _ W3))) ((hbq.drew).set_ 1 (.int .i64 ((k : Int) + 1)))
              obtain ⟨L4, h4, kb4, _⟩ := Goes.up kb3 kb3.size (Nat.le_refl _) h3 hgo4
              go_roundg (gk - 1)
              case measure => omega
              case rel =>
                refine ⟨k + 1, _, L4, by omega, by go_num, h4, ⟨?_, ?_⟩, kb4⟩
                · show (t'.frames ++ [_]).set _ _ = _
                  rw [← HFL.out, List.set_append_right _ _ (Nat.le_refl _), Nat.sub_self, List.set_cons_zero, HT.out.1, F3_succ wl k x HX.out, List.append_assoc]
                · show (t'.hs ++ [x]).length = _
                  rw [List.length_append, HT.out.2]
                  rfl
            · have hge : ¬ ((k : Int) < (m : Int)) := by omega
              have hke : k = m := by omega
              have hT := HT.out
              rw [hke] at hT
              clear hke hk hlt HT
              have HT := Lib.hid hT
              clear hT
              have hm1 : IntKind.i64.wrap ((m : Int) - 1) = (m : Int) - 1 := IntWalk.i64_in _ (by omega)
              go_wp2_with fail
              clear hge hm1
              go_loopg [11] m (fun gk i wr' => ∃ (t' : Th) (L' : TL), i = .int .i64 ((gk : Int) - 1) ∧ gk ≤ m ∧ TBox wr' w.heap.size w.heap.size t' L' ∧ Hid (t'.frames = fr1 ++ F3 wl gk ∧ t'.hs.length ≤ 1000) ∧ Below w.heap.size w wr')
              case atStart => exact ⟨t', L', rfl, Nat.le_refl _, ht, ⟨HT.out.1, by have := HT.out.2; omega⟩, kb⟩
              case round =>
                clear ht kb HT
                obtain ⟨t', L', rfl, hgm, ht, HT, kb⟩ := hrel
                have hT := HT.out
                have hfl4 : t'.frames.length = fr1.length + gk := by rw [hT.1, List.length_append, F3_len]
                cases gk with
                | zero =>
                  have t0 : ¬ ((0 : Int) ≤ ((0 : Nat) : Int) - 1) := by omega
                  have t00 : decide ((0 : Int) ≤ ((0 : Nat) : Int) - 1) = false := decide_eq_false t0
                  have hd := deep_any ht
                  have hh := handle_any ht 0 (by omega)
                  rw [show hAt t'.hs 0 = 0 from if_neg (by omega)] at hh
                  rw [hfl4, Nat.add_zero] at hd
                  clear hfl4 hT ht
                  go_wp2_with (first | (go_at_call 10; refine hd.mono ?_; rintro e wa ⟨rfl, rfl⟩) | (go_at_call 14; refine hh.mono ?_; rintro e wa ⟨rfl, rfl⟩) | (go_at_call 7; refine (lives20 _).mono ?_; rintro e wb ⟨rfl, hbb⟩))
                  go_ret
                  exact ⟨rfl, bnext kb hbb⟩
                | succ j =>
                  obtain ⟨b, o', rfl, hbw, hc⟩ := hw.base us_len (by decide) (by omega)
                  obtain ⟨x, hx⟩ : ∃ x, wl[j]? = some x := ⟨wl[j]'(by omega), List.getElem?_eq_getElem (i := j) _⟩
                  have c00 : w.cell? ⟨b, o' + j, none⟩ = some (.int .u64 x) := by have h0 := hc j x 0 _ hx rfl; simpa using h0
                  have c0 := keep_below c00 kb
                  have hF := F3_succ wl j x hx
                  have hM : t'.frames.length = (fr1.length + j) + 1 := by omega
                  have hfq : t'.frames[fr1.length + j]? = some ⟨(j : Int), (j : Int) + 1, pad 16 [x]⟩ := by
                    rw [hT.1, hF, ← List.append_assoc, List.getElem?_append_right (by simp [F3_len])]
                    simp [F3_len]
                  obtain ⟨q, hq, hbq⟩ := ht.fr _ _ hfq
                  have cq0 : wr.cell? ⟨q, 0, none⟩ = some (.int .i64 (j : Int)) := hbq.cell 0
                  have cq1 : wr.cell? ⟨q, 1, none⟩ = some (.int .i64 ((j : Int) + 1)) := hbq.cell 1
                  have cq2 : wr.cell? ⟨q, 2, none⟩ = some (.int .u64 x) := hbq.cell 2
                  have hzq := hbq.lt
                  have htop := top_some ht hM hq (by omega)
                  have hd := fun (W : World) (h : TBox W w.heap.size w.heap.size t' L') => deep_any h
                  rw [hM] at hd
                  have hi : ((j + 1 : Nat) : Int) - 1 = (j : Int) := by omega
                  rw [hi]
                  have b0 : (0 : Int) ≤ (j : Int) := by omega
                  have b1 : (j : Int) < (m : Int) := by omega
                  have hw1 : IntKind.i64.wrap ((j : Int) + 1) = (j : Int) + 1 := IntWalk.i64_in _ (by omega)
                  have hw2 : IntKind.i64.wrap ((fr1.length : Int) + (j : Int)) = (fr1.length : Int) + (j : Int) := IntWalk.i64_in _ (by omega)
                  have hw3 : IntKind.i64.wrap ((fr1.length : Int) + (j : Int) + 1) = (fr1.length : Int) + (j : Int) + 1 := IntWalk.i64_in _ (by omega)
                  have hzp := ht.blk.lt
                  have HM := Lib.hid hM
                  have HF := Lib.hid hF
                  clear hc hx hfq hq hbq hM hF hT hfl4 hi
                  go_upto_region 27 with (go_at_call 13; refine htop.mono ?_; rintro e wd ⟨rfl, rfl⟩)
                  clear htop
                  obtain ⟨W3, hW3⟩ : ∃ W3, W3 = wr := ⟨_, rfl⟩
                  subst hW3
                  have hX := @Ext.cell W3
                  have hzz0 := block_lt_of_cell c0
                  have hzz1 := block_lt_of_cell cq0
                  refine wp_region_noPanic ?_
                  refine wp_region_plan (fun w' => ∃ x : Ext W3, w' = x.w) [([0, 1, 2, 3, 7], 4), ([5, 6, 8, 9, 10, 11, 15, 16], 12), ([13, 14, 17, 18, 19, 20, 25, 26, 27, 28], 21), ([22, 23, 24, 29, 30, 31, 32, 34, 35, 36, 37], 33)] [38, 39] (by kernel_rfl) (by kernel_rfl) (by kernel_rfl) (fun _ _ _ _ _ h => h) ⟨⟨_, (brefl W3).drew⟩, rfl⟩ ?_
                  refine wpPlan_cons ?_
                  simp only [pickOps, List.getElem?_cons_succ, List.getElem?_cons_zero, Option.elim_some]
                  repeat (go_big_quiet_step (fail))
                  refine wpQuiet_nil ?_
                  refine planAct_some (fun K hK => ?_)
                  go_simp
                  refine hK.out _ _ ⟨⟨_, (brefl W3).drew⟩, rfl⟩ ?_
                  clear hK K
                  refine wpPlan_cons ?_
                  simp only [pickOps, List.getElem?_cons_succ, List.getElem?_cons_zero, Option.elim_some]
                  repeat (go_big_quiet_step (fail))
                  refine wpQuiet_nil ?_
                  refine planAct_some (fun K hK => ?_)
                  go_simp
                  refine hK.out _ _ ⟨⟨_, (brefl W3).drew⟩, rfl⟩ ?_
                  clear hK K
                  refine wpPlan_cons ?_
                  simp only [pickOps, List.getElem?_cons_succ, List.getElem?_cons_zero, Option.elim_some]
                  repeat (go_big_quiet_step (fail))
                  refine wpQuiet_nil ?_
                  refine planAct_some (fun K hK => ?_)
                  go_simp
                  refine hK.out _ _ ⟨⟨_, (brefl W3).drew⟩, rfl⟩ ?_
                  clear hK K
                  refine wpPlan_cons ?_
                  simp only [pickOps, List.getElem?_cons_succ, List.getElem?_cons_zero, Option.elim_some]
                  repeat (go_big_quiet_step (fail))
                  refine wpQuiet_nil ?_
                  refine planAct_some (fun K hK => ?_)
                  go_simp
                  refine (hd _ (ht.below (brefl W3).drew)).mono ?_
                  rintro e wa ⟨rfl, rfl⟩
                  go_wp2_with fail
                  refine hK.out _ _ ⟨⟨_, ((brefl W3).drew)⟩, rfl⟩ ?_
                  clear hK K
                  refine wpPlan_last ?_
                  simp only [pickOps, List.getElem?_cons_succ, List.getElem?_cons_zero, Option.elim_some]
                  repeat (go_big_quiet_step (fail))
                  refine wpQuiet_nil ?_
                  refine NoPanic.normal ?_
                  clear hX hzz0 hzz1
                  have hap : ∀ ad : Addr, (some (⟨W3.heap.size, 0, none⟩ : Addr)) = some ad → ([x] : List Int) ≠ [] → ad.block ≠ w.heap.size := fun ad h _ => by cases h; dsimp only; omega
                  have hbk := back_any ((ht.below (brefl W3).drew).below (bnew (brefl W3.drew) (.cells #[.int .u64 x] 33))) (Sl.of_words (l := [x]) (n := 1) (c := 1) (Blk.new W3.drew 33 _) rfl (Nat.le_refl _)) hap (by have := HM.out; omega)
                  clear hd cq0 cq1 cq2 hzq hap
                  go_upto_region 30 with (go_at_call 15; refine hbk.mono ?_; rintro e w4 ⟨rfl, hg4⟩)
                  obtain ⟨L4, h4, kb4, _⟩ := Goes.up (bnew kb.drew _) (by have := kb.size; simp; omega) (Nat.le_refl _) ((ht.below (brefl W3).drew).below (bnew (brefl W3.drew) _)) hg4
                  have c4 := keep_below c00 kb4
                  have ct : w4.cell? ⟨w.heap.size, 0, none⟩ = some (.int .u64 x) := h4.told_ rfl
                  have hz4 := h4.blk.lt
                  have txx : (x != x) = false := by simp
                  clear hbk hg4 c0 ht kb
                  have hX := @Ext.cell w4
                  have hzz0 := block_lt_of_cell c4
                  have hzz1 := block_lt_of_cell ct
                  refine wp_region_noPanic ?_
                  refine wp_region_plan (fun w' => ∃ x : Ext w4, w' = x.w) [([0, 5, 6, 7, 8], 1)] [2, 3, 4, 9] (by kernel_rfl) (by kernel_rfl) (by kernel_rfl) (fun _ _ _ _ _ h => h) ⟨⟨_, (brefl w4).drew⟩, rfl⟩ ?_
                  refine wpPlan_cons ?_
                  simp only [pickOps, List.getElem?_cons_succ, List.getElem?_cons_zero, Option.elim_some]
                  repeat (go_big_quiet_step (fail))
                  refine wpQuiet_nil ?_
                  refine planAct_some (fun K hK => ?_)
                  go_simp
                  refine hK.out _ _ ⟨⟨_, (brefl w4).drew⟩, rfl⟩ ?_
                  clear hK K
                  refine wpPlan_last ?_
                  simp only [pickOps, List.getElem?_cons_succ, List.getElem?_cons_zero, Option.elim_some]
                  repeat (go_big_quiet_step (fail))
                  refine wpQuiet_nil ?_
                  refine NoPanic.normal ?_
                  clear hX hzz0 hzz1
                  go_wp2_with fail
                  go_roundg j
                  case measure => omega
                  case rel =>
                    refine ⟨_, L4, by go_num, by omega, h4.below (brefl w4).drew, ⟨?_, by have := HT.out.2; exact this⟩, kb4.drew⟩
                    show t'.frames.take (t'.frames.length - 1) = _
                    rw [HM.out, HT.out.1, HF.out, ← List.append_assoc]
                    rw [show fr1.length + j + 1 - 1 = (fr1 ++ F3 wl j).length by simp [F3_len]]
                    exact List.take_left

theorem orders_any {w : World} {A B : Option Addr} {n c m d : Nat} {ops : List TOp} {wl : List Int} (hl : Sl toc w A n c ops) (hop : ∀ o, o ∈ ops → Sl us w o.A o.rn o.rc o.l) (hw : Sl us w B m d wl) : Calls Try.prog 3 #[.slice A n c, .slice B m d] w fun e w' => e = .returned (.bool true) ∧ Below w.heap.size w w' := by
  have hg := great_any hl
  cases hgb : gB n ops with
  | true =>
    rw [hgb] at hg
    exact orders_great hg
  | false =>
    by_cases hm : m ≤ 60
    · exact orders_main hl hop hw hgb hm
    · rw [hgb] at hg
      exact orders_long hg (by omega)
end Go.Proofs.Ytclhlgeicfhdiaa
