/- Histories: what may be, in plain words; the document's walk of it. -/
import Derived.Test.YtkcilmnmbfbogaaHist
namespace Go.Proofs.Ytkcilmnmbfbogaa
set_option linter.unusedVariables false
set_option linter.unusedSimpArgs false
open Go.RowKit

/-- May these events be? -/
def okB (l : List Ev) : Bool := (List.range l.length).all fun i => match l[i]? with
  | some e => okE (l.take i) e
  | none => true
def mayB (l : List Ev) : Bool := okB l && decide (calls l ≤ 40)
theorem okB_of {l : List Ev} (h : okUp l l.length) : okB l = true := by
  unfold okB
  rw [List.all_eq_true]
  intro i hi
  have hi := List.mem_range.1 hi
  rw [List.getElem?_eq_getElem hi]
  exact h i _ hi (List.getElem?_eq_getElem hi)
theorem okB_no {l : List Ev} {i : Nat} {e : Ev} (he : l[i]? = some e) (h : okE (l.take i) e = false) : mayB l = false := by
  have : okB l = false := by
    unfold okB
    rw [List.all_eq_false]
    refine ⟨i, List.mem_range.2 (List.getElem?_eq_some_iff.1 he).1, ?_⟩
    rw [he]
    simp [h]
  unfold mayB
  rw [this]
  rfl
theorem okB_up {l : List Ev} (h : okB l = true) : okUp l l.length := by
  intro i e hi he
  unfold okB at h
  have := List.all_eq_true.1 h i (List.mem_range.2 hi)
  rw [he] at this
  exact this
/-- The eight threads' marks. -/
def wl (l : List Ev) : List Value := (List.range 8).map fun (j : Nat) => .bool (wi l (j : Int))
theorem wl_nil : wl [] = [.bool false, .bool false, .bool false, .bool false, .bool false, .bool false, .bool false, .bool false] := rfl
theorem wl_get (l : List Ev) {j : Nat} (hj : j < 8) : (wl l)[j]? = some (.bool (wi l (j : Int))) := by
  unfold wl
  rw [List.getElem?_map, List.getElem?_range hj]
  rfl
theorem wl_snoc (l : List Ev) (e : Ev) {j : Nat} (hj : j < 8) (h : e.th = (j : Int)) : (wl l).toArray.setIfInBounds j (.bool (!e.bk)) = (wl (l ++ [e])).toArray := by
  rw [List.setIfInBounds_toArray]
  congr 1
  apply List.ext_getElem?
  intro i
  by_cases hi : i < 8
  · rw [List.getElem?_set, wl_get l hi, wl_get (l ++ [e]) hi, wi_snoc, h]
    by_cases hij : j = i
    · subst hij
      simp [wl, hj]
    · rw [if_neg hij, if_neg (by omega)]
  · rw [List.getElem?_eq_none (by simp [wl]; omega), List.getElem?_eq_none (by simp [wl]; omega)]
theorem range_sl {α : Type} {f : α → List Value} {s : Nat} (hf : ∀ x, (f x).length = s) {w : World} {b o n c : Nat} {l : List α} (h : Sl f w (some ⟨b, o, none⟩) n c l) {i : Nat} {x : α} (hi : l[i]? = some x) : w.rangeAt b (o + i * s) (f x) := fun j v hj => by
  have := h.rd.some_ _ _ (flat_get hf l i j x v hi hj)
  have e : ((⟨b, o, none⟩ : Addr).add (i * s + j)) = ⟨b, o + i * s + j, none⟩ := by rw [Addr.add_mid, Nat.add_assoc]
  rw [← e]
  exact this
theorem calls_snoc (l : List Ev) (e : Ev) : calls (l ++ [e]) = calls l + (if e.bk = true then 0 else 1) := by
  unfold calls
  rw [List.filter_append, List.length_append]
  cases hb : e.bk <;> simp [hb]

set_option maxHeartbeats 4000000 in
set_option maxRecDepth 100000 in
theorem rmay_any {w : World} {A : Option Addr} {n c : Nat} {l : List Ev} (h : Sl evc w A n c l) (hn : n ≤ 1000000) : Calls Try.prog 10 #[.slice A n c] w fun r w' => r = .returned (.bool (mayB l)) ∧ Below w.heap.size w w' := by
  have hlen := h.len
  have hbw : 0 < n → ∀ ad, A = some ad → ad.block < w.heap.size := fun h0 => h.rd.lt (by intro e; have := congrArg List.length e; rw [flat_len evc_len] at this; simp at this; omega)
  go_enter Try.func10, Try.ntmps10
  go_upto_region 2 with (fail)
  obtain ⟨W0, hW0, hB, h0, kb⟩ : ∃ W0, w.alloc (.cells #[.bool false, .bool false, .bool false, .bool false, .bool false, .bool false, .bool false, .bool false] 51) = W0 ∧ Blk W0 w.heap.size 51 (wl (l.take 0)).toArray ∧ Sl evc W0 A n c l ∧ Below w.heap.size w W0 := ⟨_, rfl, Blk.new _ _ _, h.alloc _, bnew (brefl w) _⟩
  rw [hW0]
  clear hW0 h
  go_wp2_with fail
  go_loopg [4, 5] n (fun gk q i wr => ∃ k : Nat, k + gk = n ∧ i = .int .i64 k ∧ q = .int .i64 (calls (l.take k) : Nat) ∧ Blk wr w.heap.size 51 (wl (l.take k)).toArray ∧ Hid (okUp l k) ∧ Sl evc wr A n c l ∧ Below w.heap.size w wr)
  case atStart => exact ⟨0, by omega, rfl, rfl, hB, fun i e hi _ => by omega, h0, kb⟩
  case round =>
    clear hB h0 kb
    obtain ⟨k, hk, rfl, rfl, hB, hok, hs, kb⟩ := hrel
    by_cases hlt : k < n
    · obtain ⟨b, o', rfl, _, hc⟩ := hs.base evc_len (by decide) (by omega)
      have hbw := hbw (by omega)
      obtain ⟨e, he⟩ : ∃ e, l[k]? = some e := ⟨l[k]'(by omega), List.getElem?_eq_getElem (i := k) _⟩
      have hrg : wr.rangeAt b (o' + k * 15) [.int .i64 e.th, .bool e.bk, .int .i64 e.c.op, .int .i64 e.c.lv, .int .i64 e.c.key, .int .u64 e.c.a, .int .u64 e.c.b, .int .u64 e.c.h, .int .i64 e.c.rg, .int .i64 e.a.er, .int .u64 e.a.ra, .int .u64 e.a.rb, .int .u64 e.a.rh, .int .i64 e.a.n, .int .i64 e.a.k] := range_sl evc_len hs he
      have b0 : (0 : Int) ≤ (k : Int) := by omega
      have b1 : (k : Int) < (n : Int) := by omega
      have HS : Hid (l.take (k + 1) = l.take k ++ [e]) := by rw [Hid, List.take_add_one, he]; rfl
      have hcl : calls (l.take k) ≤ k := by unfold calls; exact Nat.le_trans (List.length_filter_le _ _) (by simp; omega)
      have HE := Lib.hid he
      generalize hCL : calls (l.take k) = C at *
      have HCL := Lib.hid hCL
      clear hc he hCL
      go_upto_region 7 with (refine wpList_load_mid (op := ⟨some 16, _, _, _, _, _⟩) rfl 45 (.tmp 15) rfl b (o' + k * 15) rfl [.int .i64 e.th, .bool e.bk, .int .i64 e.c.op, .int .i64 e.c.lv, .int .i64 e.c.key, .int .u64 e.c.a, .int .u64 e.c.b, .int .u64 e.c.h, .int .i64 e.c.rg, .int .i64 e.a.er, .int .u64 e.a.ra, .int .u64 e.a.rb, .int .u64 e.a.rh, .int .i64 e.a.n, .int .i64 e.a.k] _ hrg Try.underlying45 rfl (by kernel_rfl) ?_)
      obtain ⟨W1, hW1, hB1, hE1, hs1, kb1⟩ : ∃ W1, wr.alloc (.cells #[.int .i64 e.th, .bool e.bk, .int .i64 e.c.op, .int .i64 e.c.lv, .int .i64 e.c.key, .int .u64 e.c.a, .int .u64 e.c.b, .int .u64 e.c.h, .int .i64 e.c.rg, .int .i64 e.a.er, .int .u64 e.a.ra, .int .u64 e.a.rb, .int .u64 e.a.rh, .int .i64 e.a.n, .int .i64 e.a.k] 45) = W1 ∧ Blk W1 w.heap.size 51 (wl (l.take k)).toArray ∧ Blk W1 wr.heap.size 45 #[.int .i64 e.th, .bool e.bk, .int .i64 e.c.op, .int .i64 e.c.lv, .int .i64 e.c.key, .int .u64 e.c.a, .int .u64 e.c.b, .int .u64 e.c.h, .int .i64 e.c.rg, .int .i64 e.a.er, .int .u64 e.a.ra, .int .u64 e.a.rb, .int .u64 e.a.rh, .int .i64 e.a.n, .int .i64 e.a.k] ∧ Sl evc W1 (some ⟨b, o', none⟩) n c l ∧ Below w.heap.size w W1 := ⟨_, rfl, hB.alloc _, Blk.new _ _ _, hs.alloc _, bnew kb _⟩
      rw [hW1]
      have hBw := hB.lt
      clear hW1 hB hs kb hrg
      obtain ⟨th, bk, cv, av⟩ := e
      dsimp only at *
      have d0 : W1.cell? ⟨wr.heap.size, 0, none⟩ = some (.int .i64 th) := hE1.cell 0
      have d1 : W1.cell? ⟨wr.heap.size, 1, none⟩ = some (.bool bk) := hE1.cell 1
      have hzE := hE1.lt
      have hzB := hB1.lt
      have hle : wr.heap.size ≠ w.heap.size := by omega
      generalize wr.heap.size = B6 at *
      by_cases hneg : th < 0
      · have HM : Hid (mayB l = false) := okB_no HE.out (by unfold okE rightE; rw [decide_eq_false (by dsimp only; omega)]; rfl)
        go_quiet (fail)
        go_wp2
        go_ret
        exact ⟨by rw [HM.out]; rfl, below_drewN kb1 _⟩
      have tneg : decide (th < 0) = false := decide_eq_false hneg
      by_cases hbig : 7 < th
      · have HM : Hid (mayB l = false) := okB_no HE.out (by unfold okE rightE; rw [decide_eq_false (by dsimp only; omega)]; rfl)
        go_quiet (fail)
        go_wp2
        go_ret
        exact ⟨by rw [HM.out]; rfl, below_drewN kb1 _⟩
      obtain ⟨j, hj⟩ : ∃ j : Nat, th = (j : Int) := ⟨th.toNat, by omega⟩
      subst hj
      have hj8 : j < 8 := by omega
      have cj : W1.cell? ⟨w.heap.size, j, none⟩ = some (.bool (wi (l.take k) (j : Int))) := (hB1.cell j).trans (by rw [List.getElem?_toArray]; exact wl_get _ hj8)
      have fj := hB1.frozen j
      have bj0 : (0 : Int) ≤ (j : Int) := by omega
      have bj1 : (j : Int) < 8 := by omega
      have tbig : decide ((7 : Int) < (j : Int)) = false := decide_eq_false hbig
      have hwn : Blk (W1.setCell ⟨w.heap.size, j, none⟩ (.bool (!bk))) w.heap.size 51 (wl (l.take k ++ [⟨(j : Int), bk, cv, av⟩])).toArray := by
        rw [← wl_snoc _ ⟨(j : Int), bk, cv, av⟩ hj8 rfl]
        exact hB1.set_ _ _
      have hsn : Sl evc (W1.setCell ⟨w.heap.size, j, none⟩ (.bool (!bk))) (some ⟨b, o', none⟩) n c l := hs1.setCell (fun ad h => by have := hbw ad h; dsimp only; omega) _
      have kbn : Below w.heap.size w (W1.setCell ⟨w.heap.size, j, none⟩ (.bool (!bk))) := bset kb1 (Nat.le_refl _) _
      have hokE : okE (l.take k) ⟨(j : Int), bk, cv, av⟩ = ((if bk = true then decide (cv = cv0) else decide (av = av0)) && (wi (l.take k) (j : Int) == bk)) := by unfold okE rightE; rw [decide_eq_true (by dsimp only; omega), Bool.true_and]
      have HOE := Lib.hid hokE
      have hC : ∀ w : World, (binOp .neq 34 (.agg #[.int .i64 cv.op, .int .i64 cv.lv, .int .i64 cv.key, .int .u64 cv.a, .int .u64 cv.b, .int .u64 cv.h, .int .i64 cv.rg]) (.agg #[.int .i64 0, .int .i64 0, .int .i64 0, .int .u64 0, .int .u64 0, .int .u64 0, .int .i64 0])).run Try.prog w = .ok (.bool (!decide (cv = cv0))) w := neC cv
      have hA : ∀ w : World, (binOp .neq 37 (.agg #[.int .i64 av.er, .int .u64 av.ra, .int .u64 av.rb, .int .u64 av.rh, .int .i64 av.n, .int .i64 av.k]) (.agg #[.int .i64 0, .int .u64 0, .int .u64 0, .int .u64 0, .int .i64 0, .int .i64 0])).run Try.prog w = .ok (.bool (!decide (av = av0))) w := neA av
      have d2 : W1.cell? ⟨B6, 2, none⟩ = some (.int .i64 cv.op) := hE1.cell 2
      have d3 : W1.cell? ⟨B6, 3, none⟩ = some (.int .i64 cv.lv) := hE1.cell 3
      have d4 : W1.cell? ⟨B6, 4, none⟩ = some (.int .i64 cv.key) := hE1.cell 4
      have d5 : W1.cell? ⟨B6, 5, none⟩ = some (.int .u64 cv.a) := hE1.cell 5
      have d6 : W1.cell? ⟨B6, 6, none⟩ = some (.int .u64 cv.b) := hE1.cell 6
      have d7 : W1.cell? ⟨B6, 7, none⟩ = some (.int .u64 cv.h) := hE1.cell 7
      have d8 : W1.cell? ⟨B6, 8, none⟩ = some (.int .i64 cv.rg) := hE1.cell 8
      have d9 : W1.cell? ⟨B6, 9, none⟩ = some (.int .i64 av.er) := hE1.cell 9
      have d10 : W1.cell? ⟨B6, 10, none⟩ = some (.int .u64 av.ra) := hE1.cell 10
      have d11 : W1.cell? ⟨B6, 11, none⟩ = some (.int .u64 av.rb) := hE1.cell 11
      have d12 : W1.cell? ⟨B6, 12, none⟩ = some (.int .u64 av.rh) := hE1.cell 12
      have d13 : W1.cell? ⟨B6, 13, none⟩ = some (.int .i64 av.n) := hE1.cell 13
      have d14 : W1.cell? ⟨B6, 14, none⟩ = some (.int .i64 av.k) := hE1.cell 14
      clear hokE hE1 hneg hbig hs1 hB1
      generalize wi (l.take k) (j : Int) = q at *
      generalize decide (cv = cv0) = dC at *
      generalize decide (av = av0) = dA at *
      cases bk
      · cases q
        · cases dA
          · have HM : Hid (mayB l = false) := okB_no HE.out (by rw [HOE.out]; simp)
            go_quiet (fail)
            go_wp2
            go_ret
            exact ⟨by rw [HM.out]; rfl, below_drewN kb1 _⟩
          · have HOK : Hid (okUp l (k + 1)) := fun i e hi he => by
              by_cases hik : i < k
              · exact hok.out i e hik he
              · obtain rfl : i = k := by omega
                rw [HE.out] at he
                cases he
                rw [HOE.out]
                rfl
            go_quiet (fail)
            go_wp2
            go_roundg (gk - 1)
            case measure => omega
            case rel => exact ⟨k + 1, by omega, by go_num, by rw [HS.out, calls_snoc, HCL.out]; go_num, by rw [HS.out]; exact hwn.drewN _, HOK, hsn.drewN _, below_drewN kbn _⟩
        · have HM : Hid (mayB l = false) := okB_no HE.out (by rw [HOE.out]; simp)
          go_quiet (fail)
          go_wp2
          go_ret
          exact ⟨by rw [HM.out]; rfl, below_drewN kb1 _⟩
      · cases q
        · have HM : Hid (mayB l = false) := okB_no HE.out (by rw [HOE.out]; simp)
          go_quiet (fail)
          go_wp2
          go_ret
          exact ⟨by rw [HM.out]; rfl, below_drewN kb1 _⟩
        · cases dC
          · have HM : Hid (mayB l = false) := okB_no HE.out (by rw [HOE.out]; simp)
            go_quiet (fail)
            go_wp2
            go_ret
            exact ⟨by rw [HM.out]; rfl, below_drewN kb1 _⟩
          · have HOK : Hid (okUp l (k + 1)) := fun i e hi he => by
              by_cases hik : i < k
              · exact hok.out i e hik he
              · obtain rfl : i = k := by omega
                rw [HE.out] at he
                cases he
                rw [HOE.out]
                rfl
            go_quiet (fail)
            go_wp2
            go_roundg (gk - 1)
            case measure => omega
            case rel => exact ⟨k + 1, by omega, by go_num, by rw [HS.out, calls_snoc, HCL.out]; rfl, by rw [HS.out]; exact hwn.drewN _, HOK, hsn.drewN _, below_drewN kbn _⟩
    · skip
      have hke : k = n := by omega
      have HT : Hid (l.take k = l) := List.take_of_length_le (by omega)
      have hokl : okUp l l.length := by rw [hlen, ← hke]; exact hok.out
      have HM : Hid (mayB l = decide (calls l ≤ 40)) := by rw [Hid, mayB, okB_of hokl, Bool.true_and]
      rw [HT.out]
      have hge : ¬ ((k : Int) < (n : Int)) := by omega
      have hd : decide ((calls l : Int) ≤ 40) = decide (calls l ≤ 40) := by congr 1; apply propext; omega
      clear hokl hs hB hke hlt
      go_wp2
      go_ret
      exact ⟨by rw [HM.out, ← hd]; rfl, kb⟩
end Go.Proofs.Ytkcilmnmbfbogaa
