/- Why a script is not right. -/
import Derived.Test.YtjjgngccgjpnaaaGreatDoorScrE
namespace Go.Proofs.YtjjgngccgjpnaaaGreatDoor
set_option linter.unusedVariables false
set_option linter.unusedSimpArgs false
open Go.RowKit

def rightN (c : Cf) (ps : List (List CV)) (es : List En) (lv : Int) : Int := if mayB c = false then 2 else if absB c ps es = true then 1 else if badB c ps es lv = true then 14 else if longB c ps es lv = true then 5 else 0

set_option maxHeartbeats 4000000 in
set_option maxRecDepth 100000 in
theorem right_any {w : World} {c : Cf} {us : List Value} {ps : List (List CV)} {EA : Option Addr} {en ec : Nat} {es : List En} (hP : PIn (fun _ => False) w us ps) (hE : Sl enc_ w EA en ec es) (hen : en ≤ 1000000) (hps : ∀ l, l ∈ ps → l.length ≤ 1000000) (lv : Int) : Calls Tryz.prog 30 #[.agg (scc c us (.slice EA en ec)).toArray, .int .i64 lv] w (NewR w (rightN c ps es lv)) := by
  have h8 := hP.u8
  have hi := info_scc (c := c) (ev := .slice EA en ec) h8
  obtain ⟨W0, hW0, hB, kb⟩ : ∃ W0, w.alloc (.cells (scc c us (.slice EA en ec)).toArray 30) = W0 ∧ Blk W0 w.heap.size 30 (scc c us (.slice EA en ec)).toArray ∧ Below w.heap.size w W0 := ⟨_, rfl, Blk.new _ _ _, bnew (brefl w) _⟩
  have r0 : W0.rangeAt w.heap.size 0 [.int .i64 c.lv, .int .i64 c.th, .int .i64 c.o0, .int .i64 c.o1, .int .i64 c.o2, .int .i64 c.o3, .int .i64 c.o4, .int .i64 c.o5, .int .i64 c.o6, .int .i64 c.o7, .int .i64 c.sl, .int .i64 c.li, .int .i64 c.ge, .int .i64 c.qu] := range_blk hB 0 (scc_conf c us _)
  have hz := hB.lt
  have HW := Lib.hid (wrong_any (w := W0) (c := c) (hP.below kb) (hE.below kb) hen hps lv)
  have HAB := Lib.hid (fun W (hW : Below W0.heap.size W0 W) => absent_any (w := W) (c := c) ((hP.below kb).below hW) ((hE.below kb).below hW) hen hps)
  have hmay := may_any c
  clear hP hE
  generalize scc c us (.slice EA en ec) = cs at *
  obtain ⟨mb, hmb⟩ : ∃ b, mayB c = b := ⟨_, rfl⟩
  obtain ⟨ab, hab⟩ : ∃ b, absB c ps es = b := ⟨_, rfl⟩
  obtain ⟨bb, hbb⟩ : ∃ b, badB c ps es lv = b := ⟨_, rfl⟩
  obtain ⟨lb, hlb⟩ : ∃ b, longB c ps es lv = b := ⟨_, rfl⟩
  have HM := Lib.hid hmb
  have HA := Lib.hid hab
  have HBA := Lib.hid hbb
  have HLO := Lib.hid hlb
  rw [hmb] at hmay
  rw [hbb, hlb] at HW
  simp only [hab] at HAB
  clear hmb hab hbb hlb
  go_enter Tryz.func30, Tryz.ntmps30
  go_upto_region 1 with (fail)
  cases mb with
  | false =>
    have HR : Hid (rightN c ps es lv = 2) := by rw [Hid, rightN]; simp [HM.out, HA.out, HBA.out, HLO.out]
    have HN := Lib.hid (fun W => new_any (-1) lv 2 ⟨#[115, 99, 114, 105, 112, 116]⟩ W)
    have tok1 : True := trivial
    have tok2 : True := trivial
    have tok3 : True := trivial
    go_wp2_with (first
      | (have _t := tok1; refine wpList_load_row (o := ⟨some 9, _, _, _, _, _⟩) rfl 30 (.tmp 2) rfl w.heap.size rfl 30 _ _ _ hB Tryz.underlying30 rfl hi ?_; clear tok1 _t)
      | (go_at_call 65; refine HW.out.mono ?_; rintro e w1 ⟨rfl, hb1⟩; have hB1 := hB.below_ hb1; have rq : w1.rangeAt w.heap.size 0 [.int .i64 c.lv, .int .i64 c.th, .int .i64 c.o0, .int .i64 c.o1, .int .i64 c.o2, .int .i64 c.o3, .int .i64 c.o4, .int .i64 c.o5, .int .i64 c.o6, .int .i64 c.o7, .int .i64 c.sl, .int .i64 c.li, .int .i64 c.ge, .int .i64 c.qu] := (fun j v hj => keep_below (r0 j v hj) hb1))
      | (have _t := tok2; refine wpList_load_mid (op := ⟨some 16, _, _, _, _, _⟩) rfl 25 (.tmp 15) rfl w.heap.size (0) rfl [.int .i64 c.lv, .int .i64 c.th, .int .i64 c.o0, .int .i64 c.o1, .int .i64 c.o2, .int .i64 c.o3, .int .i64 c.o4, .int .i64 c.o5, .int .i64 c.o6, .int .i64 c.o7, .int .i64 c.sl, .int .i64 c.li, .int .i64 c.ge, .int .i64 c.qu] _ rq Tryz.underlying25 rfl (by kernel_rfl) ?_; clear tok2 _t)
      | (go_at_call 66; refine (hmay _).mono ?_; rintro e w2 ⟨rfl, hb2⟩; have hB2 := hB1.below_ hb2; have hab := HAB.out w2 (bnext hb1 hb2))
      | (have _t := tok3; refine wpList_load_row (o := ⟨some 20, _, _, _, _, _⟩) rfl 30 (.tmp 2) rfl w.heap.size rfl 30 _ _ _ hB2 Tryz.underlying30 rfl hi ?_; clear tok3 _t)
      | (go_at_call 67; refine hab.mono ?_; rintro e w3 ⟨rfl, hb3⟩)
      | (go_at_call 64; refine (HN.out _).mono ?_; rintro e w4 ⟨v, rfl, hv, hb4⟩))
    go_ret
    exact ⟨v, rfl, by rw [HR.out]; exact hv, bnext kb (bnext hb1 (bnext hb2 hb4))⟩
  | true =>
    cases ab with
    | true =>
      have HR : Hid (rightN c ps es lv = 1) := by rw [Hid, rightN]; simp [HM.out, HA.out, HBA.out, HLO.out]
      have HN := Lib.hid (fun W => new_any (-1) lv 1 ⟨#[115, 99, 114, 105, 112, 116]⟩ W)
      have tok1 : True := trivial
      have tok2 : True := trivial
      have tok3 : True := trivial
      go_wp2_with (first
        | (have _t := tok1; refine wpList_load_row (o := ⟨some 9, _, _, _, _, _⟩) rfl 30 (.tmp 2) rfl w.heap.size rfl 30 _ _ _ hB Tryz.underlying30 rfl hi ?_; clear tok1 _t)
        | (go_at_call 65; refine HW.out.mono ?_; rintro e w1 ⟨rfl, hb1⟩; have hB1 := hB.below_ hb1; have rq : w1.rangeAt w.heap.size 0 [.int .i64 c.lv, .int .i64 c.th, .int .i64 c.o0, .int .i64 c.o1, .int .i64 c.o2, .int .i64 c.o3, .int .i64 c.o4, .int .i64 c.o5, .int .i64 c.o6, .int .i64 c.o7, .int .i64 c.sl, .int .i64 c.li, .int .i64 c.ge, .int .i64 c.qu] := (fun j v hj => keep_below (r0 j v hj) hb1))
        | (have _t := tok2; refine wpList_load_mid (op := ⟨some 16, _, _, _, _, _⟩) rfl 25 (.tmp 15) rfl w.heap.size (0) rfl [.int .i64 c.lv, .int .i64 c.th, .int .i64 c.o0, .int .i64 c.o1, .int .i64 c.o2, .int .i64 c.o3, .int .i64 c.o4, .int .i64 c.o5, .int .i64 c.o6, .int .i64 c.o7, .int .i64 c.sl, .int .i64 c.li, .int .i64 c.ge, .int .i64 c.qu] _ rq Tryz.underlying25 rfl (by kernel_rfl) ?_; clear tok2 _t)
        | (go_at_call 66; refine (hmay _).mono ?_; rintro e w2 ⟨rfl, hb2⟩; have hB2 := hB1.below_ hb2; have hab := HAB.out w2 (bnext hb1 hb2))
        | (have _t := tok3; refine wpList_load_row (o := ⟨some 20, _, _, _, _, _⟩) rfl 30 (.tmp 2) rfl w.heap.size rfl 30 _ _ _ hB2 Tryz.underlying30 rfl hi ?_; clear tok3 _t)
        | (go_at_call 67; refine hab.mono ?_; rintro e w3 ⟨rfl, hb3⟩)
        | (go_at_call 64; refine (HN.out _).mono ?_; rintro e w4 ⟨v, rfl, hv, hb4⟩))
      go_ret
      exact ⟨v, rfl, by rw [HR.out]; exact hv, bnext kb (bnext hb1 (bnext hb2 (bnext hb3 hb4)))⟩
    | false =>
      cases bb with
      | true =>
        have HR : Hid (rightN c ps es lv = 14) := by rw [Hid, rightN]; simp [HM.out, HA.out, HBA.out, HLO.out]
        have HN := Lib.hid (fun W => new_any (-1) lv 14 ⟨#[115, 99, 114, 105, 112, 116]⟩ W)
        have tok1 : True := trivial
        have tok2 : True := trivial
        have tok3 : True := trivial
        go_wp2_with (first
          | (have _t := tok1; refine wpList_load_row (o := ⟨some 9, _, _, _, _, _⟩) rfl 30 (.tmp 2) rfl w.heap.size rfl 30 _ _ _ hB Tryz.underlying30 rfl hi ?_; clear tok1 _t)
          | (go_at_call 65; refine HW.out.mono ?_; rintro e w1 ⟨rfl, hb1⟩; have hB1 := hB.below_ hb1; have rq : w1.rangeAt w.heap.size 0 [.int .i64 c.lv, .int .i64 c.th, .int .i64 c.o0, .int .i64 c.o1, .int .i64 c.o2, .int .i64 c.o3, .int .i64 c.o4, .int .i64 c.o5, .int .i64 c.o6, .int .i64 c.o7, .int .i64 c.sl, .int .i64 c.li, .int .i64 c.ge, .int .i64 c.qu] := (fun j v hj => keep_below (r0 j v hj) hb1))
          | (have _t := tok2; refine wpList_load_mid (op := ⟨some 16, _, _, _, _, _⟩) rfl 25 (.tmp 15) rfl w.heap.size (0) rfl [.int .i64 c.lv, .int .i64 c.th, .int .i64 c.o0, .int .i64 c.o1, .int .i64 c.o2, .int .i64 c.o3, .int .i64 c.o4, .int .i64 c.o5, .int .i64 c.o6, .int .i64 c.o7, .int .i64 c.sl, .int .i64 c.li, .int .i64 c.ge, .int .i64 c.qu] _ rq Tryz.underlying25 rfl (by kernel_rfl) ?_; clear tok2 _t)
          | (go_at_call 66; refine (hmay _).mono ?_; rintro e w2 ⟨rfl, hb2⟩; have hB2 := hB1.below_ hb2; have hab := HAB.out w2 (bnext hb1 hb2))
          | (have _t := tok3; refine wpList_load_row (o := ⟨some 20, _, _, _, _, _⟩) rfl 30 (.tmp 2) rfl w.heap.size rfl 30 _ _ _ hB2 Tryz.underlying30 rfl hi ?_; clear tok3 _t)
          | (go_at_call 67; refine hab.mono ?_; rintro e w3 ⟨rfl, hb3⟩)
          | (go_at_call 64; refine (HN.out _).mono ?_; rintro e w4 ⟨v, rfl, hv, hb4⟩))
        go_ret
        exact ⟨v, rfl, by rw [HR.out]; exact hv, bnext kb (bnext hb1 (bnext hb2 (bnext hb3 hb4)))⟩
      | false =>
        cases lb with
        | true =>
          have HR : Hid (rightN c ps es lv = 5) := by rw [Hid, rightN]; simp [HM.out, HA.out, HBA.out, HLO.out]
          have HN := Lib.hid (fun W => new_any (-1) lv 5 ⟨#[115, 99, 114, 105, 112, 116]⟩ W)
          have tok1 : True := trivial
          have tok2 : True := trivial
          have tok3 : True := trivial
          go_wp2_with (first
            | (have _t := tok1; refine wpList_load_row (o := ⟨some 9, _, _, _, _, _⟩) rfl 30 (.tmp 2) rfl w.heap.size rfl 30 _ _ _ hB Tryz.underlying30 rfl hi ?_; clear tok1 _t)
            | (go_at_call 65; refine HW.out.mono ?_; rintro e w1 ⟨rfl, hb1⟩; have hB1 := hB.below_ hb1; have rq : w1.rangeAt w.heap.size 0 [.int .i64 c.lv, .int .i64 c.th, .int .i64 c.o0, .int .i64 c.o1, .int .i64 c.o2, .int .i64 c.o3, .int .i64 c.o4, .int .i64 c.o5, .int .i64 c.o6, .int .i64 c.o7, .int .i64 c.sl, .int .i64 c.li, .int .i64 c.ge, .int .i64 c.qu] := (fun j v hj => keep_below (r0 j v hj) hb1))
            | (have _t := tok2; refine wpList_load_mid (op := ⟨some 16, _, _, _, _, _⟩) rfl 25 (.tmp 15) rfl w.heap.size (0) rfl [.int .i64 c.lv, .int .i64 c.th, .int .i64 c.o0, .int .i64 c.o1, .int .i64 c.o2, .int .i64 c.o3, .int .i64 c.o4, .int .i64 c.o5, .int .i64 c.o6, .int .i64 c.o7, .int .i64 c.sl, .int .i64 c.li, .int .i64 c.ge, .int .i64 c.qu] _ rq Tryz.underlying25 rfl (by kernel_rfl) ?_; clear tok2 _t)
            | (go_at_call 66; refine (hmay _).mono ?_; rintro e w2 ⟨rfl, hb2⟩; have hB2 := hB1.below_ hb2; have hab := HAB.out w2 (bnext hb1 hb2))
            | (have _t := tok3; refine wpList_load_row (o := ⟨some 20, _, _, _, _, _⟩) rfl 30 (.tmp 2) rfl w.heap.size rfl 30 _ _ _ hB2 Tryz.underlying30 rfl hi ?_; clear tok3 _t)
            | (go_at_call 67; refine hab.mono ?_; rintro e w3 ⟨rfl, hb3⟩)
            | (go_at_call 64; refine (HN.out _).mono ?_; rintro e w4 ⟨v, rfl, hv, hb4⟩))
          go_ret
          exact ⟨v, rfl, by rw [HR.out]; exact hv, bnext kb (bnext hb1 (bnext hb2 (bnext hb3 hb4)))⟩
        | false =>
          have HR : Hid (rightN c ps es lv = 0) := by rw [Hid, rightN]; simp [HM.out, HA.out, HBA.out, HLO.out]
          have HN := Lib.hid (fun W => new_any (-1) lv 0 ⟨#[115, 99, 114, 105, 112, 116]⟩ W)
          have tok1 : True := trivial
          have tok2 : True := trivial
          have tok3 : True := trivial
          go_wp2_with (first
            | (have _t := tok1; refine wpList_load_row (o := ⟨some 9, _, _, _, _, _⟩) rfl 30 (.tmp 2) rfl w.heap.size rfl 30 _ _ _ hB Tryz.underlying30 rfl hi ?_; clear tok1 _t)
            | (go_at_call 65; refine HW.out.mono ?_; rintro e w1 ⟨rfl, hb1⟩; have hB1 := hB.below_ hb1; have rq : w1.rangeAt w.heap.size 0 [.int .i64 c.lv, .int .i64 c.th, .int .i64 c.o0, .int .i64 c.o1, .int .i64 c.o2, .int .i64 c.o3, .int .i64 c.o4, .int .i64 c.o5, .int .i64 c.o6, .int .i64 c.o7, .int .i64 c.sl, .int .i64 c.li, .int .i64 c.ge, .int .i64 c.qu] := (fun j v hj => keep_below (r0 j v hj) hb1))
            | (have _t := tok2; refine wpList_load_mid (op := ⟨some 16, _, _, _, _, _⟩) rfl 25 (.tmp 15) rfl w.heap.size (0) rfl [.int .i64 c.lv, .int .i64 c.th, .int .i64 c.o0, .int .i64 c.o1, .int .i64 c.o2, .int .i64 c.o3, .int .i64 c.o4, .int .i64 c.o5, .int .i64 c.o6, .int .i64 c.o7, .int .i64 c.sl, .int .i64 c.li, .int .i64 c.ge, .int .i64 c.qu] _ rq Tryz.underlying25 rfl (by kernel_rfl) ?_; clear tok2 _t)
            | (go_at_call 66; refine (hmay _).mono ?_; rintro e w2 ⟨rfl, hb2⟩; have hB2 := hB1.below_ hb2; have hab := HAB.out w2 (bnext hb1 hb2))
            | (have _t := tok3; refine wpList_load_row (o := ⟨some 20, _, _, _, _, _⟩) rfl 30 (.tmp 2) rfl w.heap.size rfl 30 _ _ _ hB2 Tryz.underlying30 rfl hi ?_; clear tok3 _t)
            | (go_at_call 67; refine hab.mono ?_; rintro e w3 ⟨rfl, hb3⟩)
            | (go_at_call 64; refine (HN.out _).mono ?_; rintro e w4 ⟨v, rfl, hv, hb4⟩))
          go_ret
          exact ⟨v, rfl, by rw [HR.out]; exact hv, bnext kb (bnext hb1 (bnext hb2 (bnext hb3 hb4)))⟩
end Go.Proofs.YtjjgngccgjpnaaaGreatDoor
