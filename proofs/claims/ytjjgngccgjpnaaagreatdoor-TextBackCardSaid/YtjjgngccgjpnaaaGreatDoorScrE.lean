/- What is wrong in a script, up to a level. -/
import Derived.Test.YtjjgngccgjpnaaaGreatDoorScrD
namespace Go.Proofs.YtjjgngccgjpnaaaGreatDoor
set_option linter.unusedVariables false
set_option linter.unusedSimpArgs false
open Go.RowKit

def ups (c : Cf) (lv : Int) : List Int := atL c (fun x => decide (x ≤ lv))
def pBad (ps : List (List CV)) (t : Int) : Bool := (ps.getD t.toNat []).any fun x => !okC x
def pLong (ps : List (List CV)) (t : Int) : Bool := decide (40 < (ps.getD t.toNat []).length)
def eIn (c : Cf) (lv : Int) (e : En) : Bool := decide (levelOf c e.th ≤ lv)
def eBad (c : Cf) (lv : Int) (e : En) : Bool := eIn c lv e && decide (e.wh < 0 ∨ 3 < e.wh)
def cntE (c : Cf) (lv : Int) (es : List En) : Nat := (es.filter (eIn c lv)).length
def badB (c : Cf) (ps : List (List CV)) (es : List En) (lv : Int) : Bool := (ups c lv).any (pBad ps) || es.any (eBad c lv)
def longB (c : Cf) (ps : List (List CV)) (es : List En) (lv : Int) : Bool := (ups c lv).any (pLong ps) || decide (60000 < cntE c lv es)
theorem thr_mem (c : Cf) (p : Int → Bool) : ∀ (k : Nat) (t : Int), t ∈ thr c p k → ∃ j : Nat, j < k ∧ t = (j : Int) ∧ t < c.th ∧ p (c.of j) = true
  | 0, t, h => by cases h
  | k + 1, t, h => by
    rw [thr, List.mem_append] at h
    rcases h with h | h
    · obtain ⟨j, h1, h2⟩ := thr_mem c p k t h
      exact ⟨j, by omega, h2⟩
    · split at h
      · rename_i hc
        rw [Bool.and_eq_true] at hc
        obtain rfl := List.mem_singleton.1 h
        exact ⟨k, by omega, rfl, of_decide_eq_true hc.1, hc.2⟩
      · cases h
theorem ups_mem (c : Cf) (lv t : Int) (h : t ∈ ups c lv) : ∃ j : Nat, j < 8 ∧ t = (j : Int) ∧ t < c.th ∧ c.of j ≤ lv := by
  unfold ups atL at h
  split at h
  · obtain ⟨j, h1, h2, h3, h4⟩ := thr_mem c _ 8 t h
    exact ⟨j, h1, h2, h3, of_decide_eq_true h4⟩
  · cases h
theorem ups_len (c : Cf) (lv : Int) : (ups c lv).length ≤ 8 := by
  unfold ups atL
  split
  · exact thr_len _ _ 8
  · simp
theorem any_snoc {α : Type} {l : List α} {k : Nat} {x : α} (hx : l[k]? = some x) (p : α → Bool) : (l.take (k + 1)).any p = ((l.take k).any p || p x) := by
  rw [List.take_add_one, hx]
  simp
theorem filter_snoc {α : Type} {l : List α} {k : Nat} {x : α} (hx : l[k]? = some x) (p : α → Bool) : ((l.take (k + 1)).filter p).length = ((l.take k).filter p).length + (if p x = true then 1 else 0) := by
  rw [List.take_add_one, hx, List.filter_append]
  cases h : p x <;> simp [h]
def WrongR (w : World) (b l : Bool) (e : Ending) (w' : World) : Prop := e = .returned (.tuple #[.bool b, .bool l]) ∧ Below w.heap.size w w'

set_option maxHeartbeats 4000000 in
set_option maxRecDepth 100000 in
theorem wrong_any {w : World} {c : Cf} {us : List Value} {ps : List (List CV)} {EA : Option Addr} {en ec : Nat} {es : List En} (hP : PIn (fun _ => False) w us ps) (hE : Sl enc_ w EA en ec es) (hen : en ≤ 1000000) (hps : ∀ l, l ∈ ps → l.length ≤ 1000000) (lv : Int) : Calls Tryz.prog 65 #[.agg (scc c us (.slice EA en ec)).toArray, .int .i64 lv] w (WrongR w (badB c ps es lv) (longB c ps es lv)) := by
  have h8 := hP.u8
  obtain ⟨W0, hW0, hB, kb⟩ : ∃ W0, w.alloc (.cells (scc c us (.slice EA en ec)).toArray 30) = W0 ∧ Blk W0 w.heap.size 30 (scc c us (.slice EA en ec)).toArray ∧ Below w.heap.size w W0 := ⟨_, rfl, Blk.new _ _ _, bnew (brefl w) _⟩
  have hP0 := hP.below kb
  have hE0 := hE.below kb
  have x22 : W0.cell? ⟨w.heap.size, 22, none⟩ = some (.slice EA en ec) := (hB.cell 22).trans (by rw [List.getElem?_toArray]; exact scc_last h8)
  have xk : ∀ (k : Nat) (v : Value), us[k]? = some v → W0.cell? ⟨w.heap.size, 14 + k, none⟩ = some v := fun k v hk => (hB.cell _).trans (by rw [List.getElem?_toArray]; exact scc_get hk)
  have r0 : W0.rangeAt w.heap.size 0 [.int .i64 c.lv, .int .i64 c.th, .int .i64 c.o0, .int .i64 c.o1, .int .i64 c.o2, .int .i64 c.o3, .int .i64 c.o4, .int .i64 c.o5, .int .i64 c.o6, .int .i64 c.o7, .int .i64 c.sl, .int .i64 c.li, .int .i64 c.ge, .int .i64 c.qu] := range_blk hB 0 (scc_conf c us _)
  have hz := hB.lt
  have hup := fun W => upto_any c lv W
  have XK := Lib.hid xk
  have HL8 : Hid ((atL c (fun x => decide (x ≤ lv))).length ≤ 8) := ups_len c lv
  have HLV := Lib.hid (fun W (t : Int) => level_any c t W)
  have HELN := Lib.hid hE.len
  have HTS : Hid (atL c (fun x => decide (x ≤ lv)) = ups c lv) := rfl
  generalize atL c (fun x => decide (x ≤ lv)) = ts at *
  clear xk hP hE h8 hB
  generalize scc c us (.slice EA en ec) = cs at *
  go_enter Tryz.func65, Tryz.ntmps65
  go_upto_region 1 with (fail)
  have tok1 : True := trivial
  have hcl : ∀ (t : Int), t ∈ ts → ∃ j : Nat, j < 8 ∧ t = (j : Int) := fun t h => by
    rw [HTS.out] at h
    obtain ⟨j, h1, h2, _⟩ := ups_mem c lv t h
    exact ⟨j, h1, h2⟩
  have HCL := Lib.hid hcl
  clear hcl
  go_wp2_with (first | (have _t := tok1; refine wpList_load_mid (op := ⟨some 12, _, _, _, _, _⟩) rfl 25 (.tmp 11) rfl w.heap.size (0) rfl [.int .i64 c.lv, .int .i64 c.th, .int .i64 c.o0, .int .i64 c.o1, .int .i64 c.o2, .int .i64 c.o3, .int .i64 c.o4, .int .i64 c.o5, .int .i64 c.o6, .int .i64 c.o7, .int .i64 c.sl, .int .i64 c.li, .int .i64 c.ge, .int .i64 c.qu] _ r0 Tryz.underlying25 rfl (by kernel_rfl) ?_; clear tok1 _t) | (go_at_call 92; refine (hup _).mono ?_; rintro e w1 ⟨A1, c1, rfl, own1, hb1⟩))
  have hsT := Sl.of_own (f := ic) ic_len (by decide) own1
  obtain ⟨T, hT⟩ : ∃ T, ts.length = T := ⟨_, rfl⟩
  have HTL := Lib.hid hT
  rw [hT] at hsT HL8 ⊢
  have hb01 := hb1
  have hT8 : T ≤ 8 := HL8
  clear own1 hup hT hb1
  go_loopg [4, 5, 16] T (fun gk s4 s5 i wr => ∃ (k : Nat) (bk lk : Bool), k + gk = T ∧ i = .int .i64 k ∧ s4 = .bool bk ∧ s5 = .bool lk ∧ Hid ((ts.take k).any (pBad ps) = bk) ∧ Hid ((ts.take k).any (pLong ps) = lk) ∧ Below w1.heap.size w1 wr)
  case atStart => exact ⟨0, false, false, by omega, rfl, rfl, rfl, rfl, rfl, brefl w1⟩
  case round =>
    obtain ⟨k, bk, lk, hk, rfl, rfl, rfl, hbk, hlk, kr⟩ := hrel
    by_cases hlt : k < T
    · obtain ⟨bt, ot, rfl, _, hct⟩ := hsT.base (s := 1) ic_len (by decide) (by omega)
      obtain ⟨t, ht⟩ : ∃ t, ts[k]? = some t := ⟨ts[k]'(by have := HTL.out; omega), List.getElem?_eq_getElem (i := k) _⟩
      have t0 : w1.cell? ⟨bt, ot + k, none⟩ = some (.int .i64 t) := by have h0 := hct k t 0 _ ht rfl; simpa using h0
      have t0' := keep_below t0 kr
      have tz := block_lt_of_cell t0'
      obtain ⟨j, hj8, hj⟩ := HCL.out t (List.mem_of_getElem? ht)
      obtain ⟨l, hl⟩ : ∃ l, ps[j]? = some l := ⟨ps[j]'(by have := hP0.p8; omega), List.getElem?_eq_getElem (i := j) _⟩
      obtain ⟨A, n, c', hu, hs, _⟩ := hP0.at_ j l hl
      have v0 := keep_below (XK.out j _ hu) hb01
      have v1 := keep_below v0 kr
      have vz := block_lt_of_cell v1
      have kr0 := bnext hb01 kr
      have j0 : (0 : Int) ≤ (j : Int) := by omega
      have j1 : (j : Int) < 8 := by omega
      have k0 : (0 : Int) ≤ (k : Int) := by omega
      have k1 : (k : Int) < (T : Int) := by omega
      have hn : n ≤ 1000000 := by have := hps l (List.mem_of_getElem? hl); have := hs.len; omega
      have HB := Lib.hid (any_snoc ht (pBad ps))
      have HL := Lib.hid (any_snoc ht (pLong ps))
      have e1 : pBad ps t = l.any (fun x => !okC x) := by unfold pBad; rw [hj, Int.toNat_natCast, List.getD_eq_getElem?_getD, hl, Option.getD_some]
      have e2 : pLong ps t = decide (40 < n) := by unfold pLong; rw [hj, Int.toNat_natCast, List.getD_eq_getElem?_getD, hl, Option.getD_some, hs.len]
      rw [e1, hbk.out] at HB
      rw [e2, hlk.out] at HL
      have hcall := fun W (hW : Below wr.heap.size wr W) => anyC_any (p := fun x => !okC x) ((hs.below kr0).below hW) (by omega) (fun x W' hW' => wr1_any x W')
      subst hj
      clear ht hl hu hs e1 e2 hct hbk hlk v0 t0
      generalize l.any (fun x => !okC x) = px at *
      have HCA := Lib.hid hcall
      clear hcall
      cases bk with
      | false =>
        cases lk with
        | false =>
          by_cases h40 : 40 < n
          · have u40 : (40 : Int) < (n : Int) := by omega
            have H40 := Lib.hid h40
            go_wp2_with (go_at_call 93; refine (HCA.out wr (brefl wr)).mono ?_; rintro e w2 ⟨rfl, hb2⟩; have v2 := keep_below v1 hb2; have z2 := block_lt_of_cell v2)
            go_roundg (gk - 1)
            case measure => omega
            case rel => exact ⟨k + 1, px, true, by omega, by go_num, rfl, rfl, by rw [Hid, HB.out]; simp, by rw [Hid, HL.out]; simp [H40.out], (bnext kr hb2)⟩
          · have u40 : decide ((40 : Int) < (n : Int)) = false := decide_eq_false (by omega)
            have H40 := Lib.hid h40
            clear h40
            go_wp2_with (go_at_call 93; refine (HCA.out wr (brefl wr)).mono ?_; rintro e w2 ⟨rfl, hb2⟩; have v2 := keep_below v1 hb2; have z2 := block_lt_of_cell v2)
            go_roundg (gk - 1)
            case measure => omega
            case rel => exact ⟨k + 1, px, false, by omega, by go_num, rfl, rfl, by rw [Hid, HB.out]; simp, by rw [Hid, HL.out]; simp; have := H40.out; omega, (bnext kr hb2)⟩
        | true =>
          go_wp2_with (go_at_call 93; refine (HCA.out wr (brefl wr)).mono ?_; rintro e w2 ⟨rfl, hb2⟩; have v2 := keep_below v1 hb2; have z2 := block_lt_of_cell v2)
          go_roundg (gk - 1)
          case measure => omega
          case rel => exact ⟨k + 1, px, true, by omega, by go_num, rfl, rfl, by rw [Hid, HB.out]; simp, by rw [Hid, HL.out]; simp, (bnext kr hb2)⟩
      | true =>
        cases lk with
        | false =>
          by_cases h40 : 40 < n
          · have u40 : (40 : Int) < (n : Int) := by omega
            have H40 := Lib.hid h40
            go_wp2_with fail
            go_roundg (gk - 1)
            case measure => omega
            case rel => exact ⟨k + 1, true, true, by omega, by go_num, rfl, rfl, by rw [Hid, HB.out]; simp, by rw [Hid, HL.out]; simp [H40.out], kr⟩
          · have u40 : decide ((40 : Int) < (n : Int)) = false := decide_eq_false (by omega)
            have H40 := Lib.hid h40
            clear h40
            go_wp2_with fail
            go_roundg (gk - 1)
            case measure => omega
            case rel => exact ⟨k + 1, true, false, by omega, by go_num, rfl, rfl, by rw [Hid, HB.out]; simp, by rw [Hid, HL.out]; simp; have := H40.out; omega, kr⟩
        | true =>
          go_wp2_with fail
          go_roundg (gk - 1)
          case measure => omega
          case rel => exact ⟨k + 1, true, true, by omega, by go_num, rfl, rfl, by rw [Hid, HB.out]; simp, by rw [Hid, HL.out]; simp, kr⟩
    · have t9 : decide (k < T) = false := decide_eq_false (by omega)
      obtain rfl : k = T := by omega
      have hbk' := hbk.out
      have hlk' := hlk.out
      rw [List.take_of_length_le (by have := HTL.out; omega)] at hbk' hlk'
      have HBK := Lib.hid hbk'
      have HLK := Lib.hid hlk'
      have kr0 := bnext hb01 kr
      have y22 := keep_below x22 kr0
      have yz := block_lt_of_cell y22
      have rq : wr.rangeAt w.heap.size 0 [.int .i64 c.lv, .int .i64 c.th, .int .i64 c.o0, .int .i64 c.o1, .int .i64 c.o2, .int .i64 c.o3, .int .i64 c.o4, .int .i64 c.o5, .int .i64 c.o6, .int .i64 c.o7, .int .i64 c.sl, .int .i64 c.li, .int .i64 c.ge, .int .i64 c.qu] := fun j v hj => keep_below (r0 j v hj) kr0
      have RQ := Lib.hid rq
      have hEr := hE0.below kr0
      obtain ⟨W3, rfl⟩ : ∃ W3, W3 = wr := ⟨_, rfl⟩
      clear hbk hlk hbk' hlk' rq hsT
      go_wp2_with fail
      go_loopg [4, 8, 41] en (fun gk s4 s8 i wr => ∃ (k : Nat) (bk : Bool) (cn : Nat), k + gk = en ∧ i = .int .i64 k ∧ s4 = .bool bk ∧ s8 = .int .i64 cn ∧ Hid (((ups c lv).any (pBad ps) || (es.take k).any (eBad c lv)) = bk) ∧ Hid (((es.take k).filter (eIn c lv)).length = cn) ∧ Below W3.heap.size W3 wr)
      case atStart => exact ⟨0, bk, 0, by omega, rfl, rfl, rfl, by rw [Hid, ← HBK.out, HTS.out]; simp, rfl, brefl W3⟩
      case round =>
        clear y22 yz
        obtain ⟨k, bk, cn, hk, rfl, rfl, rfl, hbk, hcn, kr1⟩ := hrel
        by_cases hlt : k < en
        · obtain ⟨b, o', rfl, _, _⟩ := hEr.base enc__len (by decide) (by omega)
          obtain ⟨x, hx⟩ : ∃ x, es[k]? = some x := ⟨es[k]'(by have := HELN.out; omega), List.getElem?_eq_getElem (i := k) _⟩
          have r1 : wr.rangeAt b (o' + k * 2) [.int .i64 x.th, .int .i64 x.wh] := range_sl enc__len (hEr.below kr1) hx
          have k0 : (0 : Int) ≤ (k : Int) := by omega
          have k1 : (k : Int) < (en : Int) := by omega
          have hcn1 : cn ≤ 1000000 := by have h1 := hcn.out; have h2 := List.length_filter_le (eIn c lv) (es.take k); have h3 := List.length_take_le k es; omega
          have HB : Hid (((ups c lv).any (pBad ps) || (es.take (k + 1)).any (eBad c lv)) = (bk || eBad c lv x)) := by rw [Hid, any_snoc hx, ← Bool.or_assoc, hbk.out]
          have HC : Hid (((es.take (k + 1)).filter (eIn c lv)).length = cn + (if eIn c lv x = true then 1 else 0)) := by rw [Hid, filter_snoc hx, hcn.out]
          obtain ⟨W4, hW4, B4, kr1, rq⟩ : ∃ W4, wr.alloc (.cells #[.int .i64 x.th, .int .i64 x.wh] 61) = W4 ∧ Blk W4 wr.heap.size 61 #[.int .i64 x.th, .int .i64 x.wh] ∧ Below W3.heap.size W3 W4 ∧ W4.rangeAt w.heap.size 0 [.int .i64 c.lv, .int .i64 c.th, .int .i64 c.o0, .int .i64 c.o1, .int .i64 c.o2, .int .i64 c.o3, .int .i64 c.o4, .int .i64 c.o5, .int .i64 c.o6, .int .i64 c.o7, .int .i64 c.sl, .int .i64 c.li, .int .i64 c.ge, .int .i64 c.qu] := ⟨_, rfl, Blk.new _ _ _, bnew kr1 _, fun j v hj => keep_below (RQ.out j v hj) (bnew kr1 _)⟩
          have HW4 := Lib.hid hW4
          have x0 : W4.cell? ⟨wr.heap.size, 0, none⟩ = some (.int .i64 x.th) := B4.cell 0
          have x1 : W4.cell? ⟨wr.heap.size, 1, none⟩ = some (.int .i64 x.wh) := B4.cell 1
          have xz := B4.lt
          have hlev := fun W => HLV.out W x.th
          obtain ⟨lev, hlv⟩ : ∃ lev, levelOf c x.th = lev := ⟨_, rfl⟩
          have HLEV := Lib.hid hlv
          rw [hlv] at hlev
          have tok1 : True := trivial
          clear hx hbk hcn hW4 B4 hlv
          go_upto_region 11 with (have _t := tok1; refine wpList_load_mid (op := ⟨some 44, _, _, _, _, _⟩) rfl 61 (.tmp 43) rfl b (o' + k * 2) rfl [.int .i64 x.th, .int .i64 x.wh] _ r1 Tryz.underlying61 rfl (by kernel_rfl) ?_; clear tok1 _t)
          rw [HW4.out]
          clear HW4 r1
          generalize wr.heap.size = q at *
          by_cases hle : lev ≤ lv
          · have HIN : Hid (eIn c lv x = true) := decide_eq_true (by rw [HLEV.out]; exact hle)
            cases bk with
            | true =>
              have tok2 : True := trivial
              go_wp2_with (first | (have _t := tok2; refine wpList_load_mid (op := ⟨some 46, _, _, _, _, _⟩) rfl 25 (.tmp 45) rfl w.heap.size (0) rfl [.int .i64 c.lv, .int .i64 c.th, .int .i64 c.o0, .int .i64 c.o1, .int .i64 c.o2, .int .i64 c.o3, .int .i64 c.o4, .int .i64 c.o5, .int .i64 c.o6, .int .i64 c.o7, .int .i64 c.sl, .int .i64 c.li, .int .i64 c.ge, .int .i64 c.qu] _ rq Tryz.underlying25 rfl (by kernel_rfl) ?_; clear tok2 _t) | (go_at_call 96; refine (hlev _).mono ?_; rintro e w2 ⟨rfl, hb2⟩; have y1 := keep_below x1 hb2; have yz := block_lt_of_cell y1))
              go_roundg (gk - 1)
              case measure => omega
              case rel => exact ⟨k + 1, true, cn + 1, by omega, by go_num, rfl, by go_num, by rw [Hid, HB.out, eBad, HIN.out]; simp, by rw [Hid, HC.out, HIN.out]; simp, bnext kr1 hb2⟩
            | false =>
              by_cases w1 : x.wh < 0
              · have W1' := Lib.hid w1
                have tok2 : True := trivial
                go_wp2_with (first | (have _t := tok2; refine wpList_load_mid (op := ⟨some 46, _, _, _, _, _⟩) rfl 25 (.tmp 45) rfl w.heap.size (0) rfl [.int .i64 c.lv, .int .i64 c.th, .int .i64 c.o0, .int .i64 c.o1, .int .i64 c.o2, .int .i64 c.o3, .int .i64 c.o4, .int .i64 c.o5, .int .i64 c.o6, .int .i64 c.o7, .int .i64 c.sl, .int .i64 c.li, .int .i64 c.ge, .int .i64 c.qu] _ rq Tryz.underlying25 rfl (by kernel_rfl) ?_; clear tok2 _t) | (go_at_call 96; refine (hlev _).mono ?_; rintro e w2 ⟨rfl, hb2⟩; have y1 := keep_below x1 hb2; have yz := block_lt_of_cell y1))
                go_roundg (gk - 1)
                case measure => omega
                case rel => exact ⟨k + 1, true, cn + 1, by omega, by go_num, rfl, by go_num, by rw [Hid, HB.out, eBad, HIN.out]; simp [W1'.out], by rw [Hid, HC.out, HIN.out]; simp, bnext kr1 hb2⟩
              · have v1 : decide (x.wh < 0) = false := decide_eq_false w1
                by_cases w3 : 3 < x.wh
                · have W3' := Lib.hid w3
                  clear w1
                  have tok2 : True := trivial
                  go_wp2_with (first | (have _t := tok2; refine wpList_load_mid (op := ⟨some 46, _, _, _, _, _⟩) rfl 25 (.tmp 45) rfl w.heap.size (0) rfl [.int .i64 c.lv, .int .i64 c.th, .int .i64 c.o0, .int .i64 c.o1, .int .i64 c.o2, .int .i64 c.o3, .int .i64 c.o4, .int .i64 c.o5, .int .i64 c.o6, .int .i64 c.o7, .int .i64 c.sl, .int .i64 c.li, .int .i64 c.ge, .int .i64 c.qu] _ rq Tryz.underlying25 rfl (by kernel_rfl) ?_; clear tok2 _t) | (go_at_call 96; refine (hlev _).mono ?_; rintro e w2 ⟨rfl, hb2⟩; have y1 := keep_below x1 hb2; have yz := block_lt_of_cell y1))
                  go_roundg (gk - 1)
                  case measure => omega
                  case rel => exact ⟨k + 1, true, cn + 1, by omega, by go_num, rfl, by go_num, by rw [Hid, HB.out, eBad, HIN.out]; simp [W3'.out], by rw [Hid, HC.out, HIN.out]; simp, bnext kr1 hb2⟩
                · have v3 : decide (3 < x.wh) = false := decide_eq_false w3
                  have W5' : Hid (0 ≤ x.wh ∧ x.wh ≤ 3) := ⟨by omega, by omega⟩
                  clear w1 w3
                  have tok2 : True := trivial
                  go_wp2_with (first | (have _t := tok2; refine wpList_load_mid (op := ⟨some 46, _, _, _, _, _⟩) rfl 25 (.tmp 45) rfl w.heap.size (0) rfl [.int .i64 c.lv, .int .i64 c.th, .int .i64 c.o0, .int .i64 c.o1, .int .i64 c.o2, .int .i64 c.o3, .int .i64 c.o4, .int .i64 c.o5, .int .i64 c.o6, .int .i64 c.o7, .int .i64 c.sl, .int .i64 c.li, .int .i64 c.ge, .int .i64 c.qu] _ rq Tryz.underlying25 rfl (by kernel_rfl) ?_; clear tok2 _t) | (go_at_call 96; refine (hlev _).mono ?_; rintro e w2 ⟨rfl, hb2⟩; have y1 := keep_below x1 hb2; have yz := block_lt_of_cell y1))
                  go_roundg (gk - 1)
                  case measure => omega
                  case rel => exact ⟨k + 1, false, cn + 1, by omega, by go_num, rfl, by go_num, by rw [Hid, HB.out, eBad, HIN.out]; simp; have := W5'.out; omega, by rw [Hid, HC.out, HIN.out]; simp, bnext kr1 hb2⟩
          · have HIN : Hid (eIn c lv x = false) := decide_eq_false (by rw [HLEV.out]; exact hle)
            have hle' : decide (lev ≤ lv) = false := decide_eq_false hle
            clear hle
            have tok2 : True := trivial
            go_wp2_with (first | (have _t := tok2; refine wpList_load_mid (op := ⟨some 46, _, _, _, _, _⟩) rfl 25 (.tmp 45) rfl w.heap.size (0) rfl [.int .i64 c.lv, .int .i64 c.th, .int .i64 c.o0, .int .i64 c.o1, .int .i64 c.o2, .int .i64 c.o3, .int .i64 c.o4, .int .i64 c.o5, .int .i64 c.o6, .int .i64 c.o7, .int .i64 c.sl, .int .i64 c.li, .int .i64 c.ge, .int .i64 c.qu] _ rq Tryz.underlying25 rfl (by kernel_rfl) ?_; clear tok2 _t) | (go_at_call 96; refine (hlev _).mono ?_; rintro e w2 ⟨rfl, hb2⟩; have y1 := keep_below x1 hb2; have yz := block_lt_of_cell y1))
            go_roundg (gk - 1)
            case measure => omega
            case rel => exact ⟨k + 1, bk, cn, by omega, by go_num, rfl, by go_num, by rw [Hid, HB.out, eBad, HIN.out]; simp, by rw [Hid, HC.out, HIN.out]; simp, bnext kr1 hb2⟩
        · have t8 : decide (k < en) = false := decide_eq_false (by omega)
          obtain rfl : k = en := by omega
          have hcn1 : cn ≤ 1000000 := by have h1 := hcn.out; have h2 := List.length_filter_le (eIn c lv) (es.take k); have h3 := List.length_take_le k es; omega
          have h1 := hbk.out
          have h2 := hcn.out
          rw [List.take_of_length_le (by have := HELN.out; omega)] at h1 h2
          have HR1 : Hid (badB c ps es lv = bk) := h1
          have HR2 : Hid (longB c ps es lv = (lk || decide (60000 < cn))) := by rw [Hid, longB, cntE, h2, ← HLK.out, HTS.out]
          have kbe := bnext kb (bnext kr0 kr1)
          clear h1 h2 hbk hcn
          cases lk with
          | true =>
            go_wp2_with fail
            go_ret2
            exact ⟨by rw [HR1.out, HR2.out]; rfl, kbe⟩
          | false =>
            by_cases h6 : 60000 < cn
            · have u6 : (60000 : Int) < (cn : Int) := by omega
              have H6 := Lib.hid h6
              go_wp2_with fail
              go_ret2
              exact ⟨by rw [HR1.out, HR2.out, decide_eq_true H6.out]; rfl, kbe⟩
            · have u6 : decide ((60000 : Int) < (cn : Int)) = false := decide_eq_false (by omega)
              have H6 := Lib.hid h6
              clear h6
              go_wp2_with fail
              go_ret2
              exact ⟨by rw [HR1.out, HR2.out, decide_eq_false H6.out]; rfl, kbe⟩
end Go.Proofs.YtjjgngccgjpnaaaGreatDoor
