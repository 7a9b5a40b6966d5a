/- Histories: the opers of a history. -/
import Derived.Test.YtkcilmnmbfbogaaHistE
import Derived.Test.YtkcilmnmbfbogaaHistF
namespace Go.Proofs.Ytkcilmnmbfbogaa
set_option linter.unusedVariables false
set_option linter.unusedSimpArgs false
open Go.RowKit

theorem elem_o : ∃ i, Elem Try.prog 24 39 i (.agg #[.int .i64 0, .int .i64 0, .int .i64 0, .int .i64 0, .int .u64 0, .int .u64 0, .int .u64 0, .int .i64 0, .int .i64 0, .int .u64 0, .int .u64 0, .int .u64 0, .int .i64 0, .int .i64 0, .int .i64 0, .int .i64 0]) 16 128 := Elem.of Try.underlying24 (by kernel_rfl) rfl (by decide)
set_option maxHeartbeats 4000000 in
set_option maxRecDepth 100000 in
theorem opers_no {w : World} {A : Option Addr} {n c : Nat} {l : List Ev} (h : Sl evc w A n c l) (hn : n ≤ 100000) (hm : mayB l = false) : Calls Try.prog 7 #[.slice A n c] w fun r w' => r = .returned (.slice none 0 0) ∧ Below w.heap.size w w' := by
  have hc := may_any h hn
  rw [hm] at hc
  clear hm
  go_enter Try.func7, Try.ntmps7
  go_wp2_with (go_at_call 9; refine hc.mono ?_; rintro e w1 ⟨rfl, hb1⟩)
  go_ret
  exact ⟨rfl, hb1⟩
theorem opers_le (l : List Ev) : (opersR l 0).length ≤ l.length := by
  rw [opersR_len]
  exact calls_le l
set_option maxHeartbeats 4000000 in
set_option maxRecDepth 100000 in
theorem opers_yes {w : World} {A : Option Addr} {n c : Nat} {l : List Ev} (h : Sl evc w A n c l) (hn : n ≤ 100000) (hm : mayB l = true) : Calls Try.prog 7 #[.slice A n c] w fun r w' => ∃ A' c', r = .returned (.slice A' (opersR l 0).length c') ∧ w'.ownsRow w.heap.size 39 16 (.slice A' (opersR l 0).length c') (opersR l 0).length ((opersR l 0).flatMap opc) ∧ Below w.heap.size w w' := by
  obtain ⟨i0, E⟩ := elem_o
  have hlen := h.len
  have hbw : 0 < n → ∀ ad, A = some ad → ad.block < w.heap.size := fun h0 => h.rd.lt (by intro e; have := congrArg List.length e; rw [flat_len evc_len] at this; simp at this; omega)
  have hc := may_any h hn
  rw [hm] at hc
  have HUP : okUp l l.length := okB_up (by unfold mayB at hm; rw [Bool.and_eq_true] at hm; exact hm.1)
  have HUP := Lib.hid HUP
  clear hm
  go_enter Try.func7, Try.ntmps7
  go_upto_region 4 with (go_at_call 9; refine hc.mono ?_; rintro e w1 ⟨rfl, hb1⟩)
  have hs1 := hb1.size
  go_upto_region 5 with (fail)
  obtain ⟨W0, hW0, hL, kb⟩ : ∃ W0, w1.alloc (.cells #[.int .i64 0, .int .i64 0, .int .i64 0, .int .i64 0, .int .i64 0, .int .i64 0, .int .i64 0, .int .i64 0] 46) = W0 ∧ Blk W0 w1.heap.size 46 (lasts (opersR (l.take 0) 0)).toArray ∧ Below w.heap.size w W0 := ⟨_, rfl, Blk.new _ _ _, bnew hb1 _⟩
  rw [hW0]
  clear hW0 hc hb1
  have hqw : w.heap.size ≤ w1.heap.size := hs1
  generalize w1.heap.size = q at *
  go_wp2_with fail
  go_loopg [3, 13] n (fun gk out i wr => ∃ (k m : Nat) (A' : Option Addr) (c' : Nat), k + gk = n ∧ i = .int .i64 k ∧ out = .slice A' m c' ∧ Hid (m = (opersR (l.take k) 0).length) ∧ wr.ownsRow w.heap.size 39 16 (.slice A' m c') m ((opersR (l.take k) 0).flatMap opc) ∧ Blk wr q 46 (lasts (opersR (l.take k) 0)).toArray ∧ Below w.heap.size w wr)
  case atStart => exact ⟨0, 0, none, 0, by omega, rfl, rfl, rfl, World.ownsRow_nil _ _ _ _, hL, kb⟩
  case round =>
    clear hL kb
    obtain ⟨k, m, A', c', hk, rfl, rfl, hm, own, hL, kb⟩ := hrel
    by_cases hlt : k < n
    · obtain ⟨b, o', rfl, _, hc⟩ := h.base evc_len (by decide) (by omega)
      have hAb : b < w.heap.size := hbw (by omega) _ rfl
      obtain ⟨e, he⟩ : ∃ e, l[k]? = some e := ⟨l[k]'(by omega), List.getElem?_eq_getElem (i := k) _⟩
      have hrg : wr.rangeAt b (o' + k * 15) [.int .i64 e.th, .bool e.bk, .int .i64 e.c.op, .int .i64 e.c.lv, .int .i64 e.c.key, .int .u64 e.c.a, .int .u64 e.c.b, .int .u64 e.c.h, .int .i64 e.c.rg, .int .i64 e.a.er, .int .u64 e.a.ra, .int .u64 e.a.rb, .int .u64 e.a.rh, .int .i64 e.a.n, .int .i64 e.a.k] := range_sl evc_len (h.below kb) he
      have b0 : (0 : Int) ≤ (k : Int) := by omega
      have b1 : (k : Int) < (n : Int) := by omega
      have HS : Hid (l.take (k + 1) = l.take k ++ [e]) := by rw [Hid, List.take_add_one, he]; rfl
      have hok : okE (l.take k) e = true := HUP.out k e (by omega) he
      unfold okE at hok
      rw [Bool.and_eq_true] at hok
      obtain ⟨hr, hwi⟩ := hok
      have hwi : wi (l.take k) e.th = e.bk := eq_of_beq hwi
      have hth : 0 ≤ e.th ∧ e.th ≤ 7 := by
        unfold rightE at hr
        rw [Bool.and_eq_true] at hr
        exact of_decide_eq_true hr.1
      obtain ⟨j, hj⟩ : ∃ j : Nat, e.th = (j : Int) := ⟨e.th.toNat, by omega⟩
      have hj8 : j < 8 := by omega
      have hmk : m ≤ k := by
        have h1 := hm.out
        have h2 := opers_le (l.take k)
        have h3 := List.length_take_le k l
        omega
      have HE := Lib.hid he
      have HJ := Lib.hid hj
      have HR := Lib.hid hwi
      have hqb : b ≠ q := by omega
      clear hc he hr hwi hj hth
      go_upto_region 8 with (refine wpList_load_mid (op := ⟨some 17, _, _, _, _, _⟩) rfl 45 (.tmp 16) rfl b (o' + k * 15) rfl [.int .i64 e.th, .bool e.bk, .int .i64 e.c.op, .int .i64 e.c.lv, .int .i64 e.c.key, .int .u64 e.c.a, .int .u64 e.c.b, .int .u64 e.c.h, .int .i64 e.c.rg, .int .i64 e.a.er, .int .u64 e.a.ra, .int .u64 e.a.rb, .int .u64 e.a.rh, .int .i64 e.a.n, .int .i64 e.a.k] _ hrg Try.underlying45 rfl (by kernel_rfl) ?_)
      obtain ⟨W1, hW1, hE1, own1, hL1, kb1⟩ : ∃ W1, wr.alloc (.cells #[.int .i64 e.th, .bool e.bk, .int .i64 e.c.op, .int .i64 e.c.lv, .int .i64 e.c.key, .int .u64 e.c.a, .int .u64 e.c.b, .int .u64 e.c.h, .int .i64 e.c.rg, .int .i64 e.a.er, .int .u64 e.a.ra, .int .u64 e.a.rb, .int .u64 e.a.rh, .int .i64 e.a.n, .int .i64 e.a.k] 45) = W1 ∧ Blk W1 wr.heap.size 45 (evc e).toArray ∧ W1.ownsRow w.heap.size 39 16 (.slice A' m c') m ((opersR (l.take k) 0).flatMap opc) ∧ Blk W1 q 46 (lasts (opersR (l.take k) 0)).toArray ∧ Below w.heap.size w W1 := ⟨_, rfl, Blk.new _ _ _, own.alloc _, hL.alloc _, bnew kb _⟩
      rw [hW1]
      have hqz := hL.lt
      have hwz := kb.size
      have hqx : q ≠ wr.heap.size := by omega
      clear hW1 own hL hrg kb
      generalize wr.heap.size = x at *
      have d0 : W1.cell? ⟨x, 0, none⟩ = some (.int .i64 e.th) := hE1.cell 0
      have d1 : W1.cell? ⟨x, 1, none⟩ = some (.bool e.bk) := hE1.cell 1
      have r2 : W1.rangeAt x 2 [.int .i64 e.c.op, .int .i64 e.c.lv, .int .i64 e.c.key, .int .u64 e.c.a, .int .u64 e.c.b, .int .u64 e.c.h, .int .i64 e.c.rg] := range_blk hE1 2 rfl
      have r9 : W1.rangeAt x 9 [.int .i64 e.a.er, .int .u64 e.a.ra, .int .u64 e.a.rb, .int .u64 e.a.rh, .int .i64 e.a.n, .int .i64 e.a.k] := range_blk hE1 9 rfl
      have cj : W1.cell? ⟨q, j, none⟩ = some (.int .i64 (lst (j : Int) (opersR (l.take k) 0) : Nat)) := (hL1.cell j).trans (by rw [List.getElem?_toArray]; exact lasts_get _ hj8)
      have fj := hL1.frozen j
      have bj0 : (0 : Int) ≤ (j : Int) := by omega
      have bj1 : (j : Int) < 8 := by omega
      have zq := hL1.lt
      have zx := hE1.lt
      rw [HJ.out] at d0
      have HEQ : Hid (evc e = [.int .i64 e.th, .bool e.bk, .int .i64 e.c.op, .int .i64 e.c.lv, .int .i64 e.c.key, .int .u64 e.c.a, .int .u64 e.c.b, .int .u64 e.c.h, .int .i64 e.c.rg, .int .i64 e.a.er, .int .u64 e.a.ra, .int .u64 e.a.rb, .int .u64 e.a.rh, .int .i64 e.a.n, .int .i64 e.a.k]) := rfl

      cases hb : e.bk with
      | false =>
        rw [hb] at d1
        have HB := Lib.hid hb
        have HO : Hid (opersR (l.take (k + 1)) 0 = opersR (l.take k) 0 ++ [mkO e k none]) := by
          rw [Hid, HS.out, opersR_call _ _ _ hb (by rw [HR.out, hb])]
          rw [Nat.zero_add, List.length_take, Nat.min_eq_left (by omega)]
        clear hb r9
        go_upto_region 10 with (fail)
        obtain ⟨W2, hW2, hE2, own2, hL2, kb2⟩ : ∃ W2, W1.setCell ⟨q, j, none⟩ (.int .i64 (m : Int)) = W2 ∧ Blk W2 x 45 (evc e).toArray ∧ W2.ownsRow w.heap.size 39 16 (.slice A' m c') m ((opersR (l.take k) 0).flatMap opc) ∧ Blk W2 q 46 (lasts (opersR (l.take (k + 1)) 0)).toArray ∧ Below w.heap.size w W2 := by
          refine ⟨_, rfl, hE1.far (p := ⟨q, j, none⟩) (by dsimp only; omega) _, ((Keeps.refl (fun b => b = q) W1).setCell (p := ⟨q, j, none⟩) (fun _ => rfl) _).own own1 (fun k e q' => own_ne_blk own1 hL1 (by decide) (by rw [e, q'])), ?_, bset kb1 (p := ⟨q, j, none⟩) (by dsimp only; omega) _⟩
          rw [HO.out, ← lasts_snoc _ (mkO e k none) hj8 HJ.out, ← hm.out]
          exact hL1.set_ j _
        rw [hW2]
        have g0 : W2.cell? ⟨x, 0, none⟩ = some (.int .i64 e.th) := hE2.cell 0
        have r2 : W2.rangeAt x 2 [.int .i64 e.c.op, .int .i64 e.c.lv, .int .i64 e.c.key, .int .u64 e.c.a, .int .u64 e.c.b, .int .u64 e.c.h, .int .i64 e.c.rg] := range_blk hE2 2 rfl
        have zx2 := hE2.lt
        clear hW2 hE1 own1 hL1 kb1 d0 d1 cj fj zq zx hE2
        go_wp2_with (first | (refine wpList_load_mid (op := ⟨some 30, _, _, _, _, _⟩) rfl 34 (.tmp 29) rfl x 2 rfl [.int .i64 e.c.op, .int .i64 e.c.lv, .int .i64 e.c.key, .int .u64 e.c.a, .int .u64 e.c.b, .int .u64 e.c.h, .int .i64 e.c.rg] _ r2 Try.underlying34 rfl (by kernel_rfl) ?_) | (at_builtin; refine wpList_onto (W0 := w) (ys := [.int .i64 e.th, .int .i64 e.c.op, .int .i64 e.c.lv, .int .i64 e.c.key, .int .u64 e.c.a, .int .u64 e.c.b, .int .u64 e.c.h, .int .i64 e.c.rg, .int .i64 0, .int .u64 0, .int .u64 0, .int .u64 0, .int .i64 0, .int .i64 0, .int .i64 (k : Int), .int .i64 (-1)]) (m := 1) E rfl (.tmp 26) (.tmp 33) rfl (bnew kb2 _) rfl (own2.alloc _) rfl rfl (Rd.new _ _ _ rfl) (by simp [Value.oneCell']) (by unfold maxLen; omega) (by omega) ?_; intro A8 c8 w8 own8 hb8 hg8))
        go_roundg (gk - 1)
        case measure => omega
        case rel =>
          refine ⟨k + 1, m + 1, A8, c8, by omega, by go_num, rfl, ?_, ?_, (hL2.alloc _).grown hg8 (fun e => own_ne_blk own2 hL2 (by decide) e.symm), hb8⟩
          · rw [Hid, HO.out, hm.out]; simp
          · rw [HO.out, List.flatMap_append]
            exact own8
      | true =>
        rw [hb] at d1
        have HB := Lib.hid hb
        obtain ⟨o, hp, hot, hfs⟩ := fill_set e.th ((0 + (l.take k).length : Nat) : Int) e.a (opersR (l.take k) 0) (opers_any (by rw [HR.out, hb]))
        have HO : Hid (opersR (l.take (k + 1)) 0 = (opersR (l.take k) 0).set (lst (j : Int) (opersR (l.take k) 0)) { o with a := e.a, fin := (k : Int) }) := by
          rw [Hid, HS.out, opersR_back _ _ _ hb (by rw [HR.out, hb]), hfs, HJ.out]
          simp only [Nat.zero_add, List.length_take, Nat.min_eq_left (by omega : k ≤ l.length)]
        rw [HJ.out] at hp hot
        clear hfs hb r2
        have hpl := (List.getElem?_eq_some_iff.1 hp).1
        have HP := Lib.hid hp
        have hmo := hm.out
        generalize hLO : opersR (l.take k) 0 = LO at *
        clear hLO
        generalize hp0 : lst (j : Int) LO = p at *

        clear hp0 hp
        have hpm : p < m := by omega
        have p0 : (0 : Int) ≤ (p : Int) := by omega
        have p1 : (p : Int) < (m : Int) := by omega
        obtain ⟨g, rfl, hgw, hgz, hgf, hgc⟩ := own_formx own1 (by omega)
        have hgq : g ≠ q := fun e => own_ne_blk own1 hL1 (by decide) (by rw [e]; rfl)
        have hgx : g ≠ x := fun e => own_ne_blk own1 hE1 (by decide) (by rw [e]; rfl)
        have hth6 : W1.there g (p * 16 + 8) 6 := fun i hi => ⟨by
          obtain ⟨v, hv⟩ : ∃ v, (opc o)[8 + i]? = some v := ⟨_, List.getElem?_eq_getElem (by rw [opc_len]; omega)⟩
          have := hgc (p * 16 + (8 + i)) v (flat_get opc_len LO p (8 + i) o v HP.out hv)
          rw [Nat.add_assoc, this]; rfl, hgf _⟩
        have v15 : W1.cell? ⟨g, p * 16 + 15, none⟩ = some (.int .i64 o.fin) := hgc (p * 16 + 15) _ (flat_get opc_len LO p 15 o _ HP.out rfl)
        have f15 : W1.frozen? ⟨g, p * 16 + 15, none⟩ = false := hgf _
        have HW3 : ∃ W3, W1.setCells g (p * 16 + 8) [.int .i64 e.a.er, .int .u64 e.a.ra, .int .u64 e.a.rb, .int .u64 e.a.rh, .int .i64 e.a.n, .int .i64 e.a.k] = W3 ∧ W3.cell? ⟨g, p * 16 + 15, none⟩ = some (.int .i64 o.fin) ∧ W3.frozen? ⟨g, p * 16 + 15, none⟩ = false ∧ W3.ownsRow w.heap.size 39 16 (.slice (some ⟨g, 0, none⟩) m c') m (setL (LO.flatMap opc) (p * 16 + 8) (avc e.a)) ∧ Blk W3 q 46 (lasts LO).toArray ∧ Below w.heap.size w W3 := by
          have kq : Keeps (fun b => b = g) W1 (W1.setCells g (p * 16 + 8) [.int .i64 e.a.er, .int .u64 e.a.ra, .int .u64 e.a.rb, .int .u64 e.a.rh, .int .i64 e.a.n, .int .i64 e.a.k]) := keeps_setCells (S := fun b => b = g) rfl _ _ _ _ (Keeps.refl _ _)
          refine ⟨_, rfl, ?_, ?_, own_setCells _ _ _ _ own1, kq.blk hL1 (fun e => hgq e.symm), kq.below kb1 kb1.size (fun y hy _ => by subst hy; exact hgw)⟩
          · rw [World.cell?_setCells_out]
            · exact v15
            · intro _ _; right; simp
          · rw [World.frozen?_setCells]
            exact f15
        have HW3 := Lib.hid HW3
        clear hgf hgc hmo hpl hot f15 v15
        go_wp2_with (first | (refine wpList_load_mid (op := ⟨some 44, _, _, _, _, _⟩) rfl 37 (.tmp 43) rfl x 9 rfl [.int .i64 e.a.er, .int .u64 e.a.ra, .int .u64 e.a.rb, .int .u64 e.a.rh, .int .i64 e.a.n, .int .i64 e.a.k] _ r9 Try.underlying37 rfl (by kernel_rfl) ?_) | (refine wpList_store_mid (op := ⟨none, .store 37 (.tmp 47) (.tmp 44), _, _, _, _⟩) rfl 37 (.tmp 47) (.tmp 44) rfl g (p * 16 + 8) #[.int .i64 e.a.er, .int .u64 e.a.ra, .int .u64 e.a.rb, .int .u64 e.a.rh, .int .i64 e.a.n, .int .i64 e.a.k] rfl rfl hth6 (by kernel_rfl) (by simp [Value.oneCell']) ?_; obtain ⟨W3, hW3, v15, f15, own3, hL3, kb3⟩ := HW3.out; rw [hW3]; clear hW3 HW3 own1 hL1 hE1 kb1))
        go_roundg (gk - 1)
        case measure => omega
        case rel =>
          refine ⟨k + 1, m, some ⟨g, 0, none⟩, c', by omega, by go_num, rfl, ?_, ?_, ?_, bset kb3 (p := ⟨g, p * 16 + 15, none⟩) hgw _⟩
          · rw [Hid, HO.out, List.length_set]; exact hm.out
          · rw [HO.out, ← fill6 HP.out]
            exact own_putx own3 _ _
          · rw [HO.out, lasts_th (set_th HP.out e.a (k : Int))]
            exact hL3.far (p := ⟨g, p * 16 + 15, none⟩) (by dsimp only; omega) _
    · have hge : ¬ ((k : Int) < (n : Int)) := by omega
      obtain rfl : k = n := by omega
      have hm' := hm.out
      rw [List.take_of_length_le (by omega)] at hm' own
      subst hm'
      clear hbw
      go_wp2
      go_ret
      exact ⟨A', c', rfl, own, kb⟩
end Go.Proofs.Ytkcilmnmbfbogaa
