/- Scripts: the laws over a script and where its entries are laid: what is more than is gone through. -/
import Derived.Test.YtijffncgokcidaaPurgeI
import Derived.Test.YtijffncgokcidaaPurgeN
namespace Go.Proofs.Ytijffncgokcidaa
set_option linter.unusedVariables false
set_option linter.unusedSimpArgs false
open Go.RowKit

def hic (c : Cf) (us : List Value) (ev : Value) (lv : Int) (av : Value) : List Value := scc c us ev ++ [.int .i64 lv, av]
theorem hic_rg {W : World} {q : Nat} {c : Cf} {us : List Value} {ev : Value} {lv : Int} {av : Value} (h : Blk W q 38 (hic c us ev lv av).toArray) : W.rangeAt q 0 (scc c us ev) := range_blk h 0 (by
  unfold hic
  rw [List.drop_zero]
  exact List.take_left)
theorem hic_at {W : World} {q : Nat} {c : Cf} {us : List Value} {ev : Value} {lv : Int} {av : Value} (h8 : us.length = 8) (h : Blk W q 38 (hic c us ev lv av).toArray) : W.cell? ⟨q, 24, none⟩ = some av := (h.cell 24).trans (by
  rw [List.getElem?_toArray, hic, List.getElem?_append_right (by rw [scc_len h8]; omega), scc_len h8]
  rfl)
theorem hic_lv {W : World} {q : Nat} {c : Cf} {us : List Value} {ev : Value} {lv : Int} {av : Value} (h8 : us.length = 8) (h : Blk W q 38 (hic c us ev lv av).toArray) : W.cell? ⟨q, 23, none⟩ = some (.int .i64 lv) := (h.cell 23).trans (by
  rw [List.getElem?_toArray, hic, List.getElem?_append_right (by rw [scc_len h8]; omega), scc_len h8]
  rfl)
theorem wpList_load_mid_g {P : Program} {ops : Array Oper} {rest : List Oper} {op : Oper} {a : Act} {w : World} {Q : Exit → Act → World → Prop} (hgd : Region.wanted op (yielded ops a.tmps) = true) (ty : TypeId) (x : Operand) (ho : op.op = .load ty x)
    (b o : Nat) (hx : a.eval x = .pointer (some ⟨b, o, none⟩)) (cs : List Value) (d : TypeDesc) (hc : w.rangeAt b o cs)
    (hu : P.underlying ty = some d) (hd : d.isRow = true) (hi : (P.info? ty).map (·.size) = some cs.length)
    (h : wpList P ops Q rest (a.put op.dst (.agg cs.toArray)) w) : wpList P ops Q (op :: rest) a w :=
  wpList_step fun K hK => by
    rw [if_pos hgd]
    exact wp_load_mid ty x ho b o hx cs d hc hu hd hi (hK _ _ h)
set_option maxHeartbeats 4000000 in
set_option maxRecDepth 100000 in
theorem keeps_x {w : World} {c c2 : Cf} {us us2 : List Value} {ps ps2 : List (List CV)} {EA EA2 AA : Option Addr} {en ec en2 ec2 an ad : Nat} (hP : PIn (fun _ => False) w us ps) (hP2 : PIn (fun _ => False) w us2 ps2) (lv : Int) (hg : 2000 < en) :
    Calls Try.prog 5 #[.agg (scc c us (.slice EA en ec)).toArray, .agg (hic c2 us2 (.slice EA2 en2 ec2) lv (.slice AA an ad)).toArray] w fun e w' => e = .returned (.bool true) ∧ Below w.heap.size w w' := by
  have h8 := hP.u8
  have h82 := hP2.u8
  have hi0 := info_scc (c := c) (us := us) (ev := .slice EA en ec) h8
  have hi1 : (Try.prog.info? 29).map (·.size) = some (scc c2 us2 (.slice EA2 en2 ec2)).length := by rw [scc_len h82]; kernel_rfl
  go_enter Try.func5, Try.ntmps5
  go_upto_region 1 with (fail)
  obtain ⟨W0, hW0, B0, B1, kb⟩ : ∃ W0, (w.alloc (.cells (scc c us (.slice EA en ec)).toArray 29)).alloc (.cells (hic c2 us2 (.slice EA2 en2 ec2) lv (.slice AA an ad)).toArray 38) = W0 ∧ Blk W0 w.heap.size 29 (scc c us (.slice EA en ec)).toArray ∧ Blk W0 (w.heap.size + 1) 38 (hic c2 us2 (.slice EA2 en2 ec2) lv (.slice AA an ad)).toArray ∧ Below w.heap.size w W0 := ⟨_, rfl, (Blk.new _ _ _).alloc _, by have := Blk.new (w.alloc (.cells (scc c us (.slice EA en ec)).toArray 29)) 38 (hic c2 us2 (.slice EA2 en2 ec2) lv (.slice AA an ad)).toArray; rwa [World.size_alloc] at this, bnew (bnew (brefl w) _) _⟩
  rw [hW0]
  clear hW0
  generalize Value.agg (scc c us (.slice EA en ec)).toArray = V0
  generalize Value.agg (hic c2 us2 (.slice EA2 en2 ec2) lv (.slice AA an ad)).toArray = V1
  have hgr := great_any (c := c) (A := EA) (n := en) (d := ec) (w := W0) h8
  rw [decide_eq_true (by omega)] at hgr
  clear h8 h82 hg
  have tok1 : True := trivial; have tok2 : True := trivial; have tok3 : True := trivial; have tok4 : True := trivial
  go_wp2_with (first | (have _t := tok1; refine wpList_load_row (o := ⟨some 7, _, _, _, _, _⟩) rfl 29 (.tmp 2) rfl w.heap.size rfl 29 _ _ _ B0 Try.underlying29 rfl hi0 ?_; clear tok1 _t) | (have _t := tok2; go_at_call 6; refine hgr.mono ?_; rintro e wa ⟨rfl, hba⟩; clear tok2 _t) | (have _t := tok3; go_at_call 7; refine (lives19 _).mono ?_; rintro e wl ⟨rfl, hbl⟩; clear tok3 _t))
  go_ret
  exact ⟨rfl, bnext (bnext kb hba) hbl⟩
set_option maxHeartbeats 4000000 in
set_option maxRecDepth 100000 in
theorem keeps_y {w : World} {c c2 : Cf} {us us2 : List Value} {ps ps2 : List (List CV)} {EA EA2 AA : Option Addr} {en ec en2 ec2 an ad : Nat} (hP : PIn (fun _ => False) w us ps) (hP2 : PIn (fun _ => False) w us2 ps2) (lv : Int) (hg0 : en ≤ 2000) (hg : 2000 < en2) :
    Calls Try.prog 5 #[.agg (scc c us (.slice EA en ec)).toArray, .agg (hic c2 us2 (.slice EA2 en2 ec2) lv (.slice AA an ad)).toArray] w fun e w' => e = .returned (.bool true) ∧ Below w.heap.size w w' := by
  have h8 := hP.u8
  have h82 := hP2.u8
  have hi0 := info_scc (c := c) (us := us) (ev := .slice EA en ec) h8
  have hi1 : (Try.prog.info? 29).map (·.size) = some (scc c2 us2 (.slice EA2 en2 ec2)).length := by rw [scc_len h82]; kernel_rfl
  go_enter Try.func5, Try.ntmps5
  go_upto_region 1 with (fail)
  obtain ⟨W0, hW0, B0, B1, kb⟩ : ∃ W0, (w.alloc (.cells (scc c us (.slice EA en ec)).toArray 29)).alloc (.cells (hic c2 us2 (.slice EA2 en2 ec2) lv (.slice AA an ad)).toArray 38) = W0 ∧ Blk W0 w.heap.size 29 (scc c us (.slice EA en ec)).toArray ∧ Blk W0 (w.heap.size + 1) 38 (hic c2 us2 (.slice EA2 en2 ec2) lv (.slice AA an ad)).toArray ∧ Below w.heap.size w W0 := ⟨_, rfl, (Blk.new _ _ _).alloc _, by have := Blk.new (w.alloc (.cells (scc c us (.slice EA en ec)).toArray 29)) 38 (hic c2 us2 (.slice EA2 en2 ec2) lv (.slice AA an ad)).toArray; rwa [World.size_alloc] at this, bnew (bnew (brefl w) _) _⟩
  rw [hW0]
  clear hW0
  generalize Value.agg (scc c us (.slice EA en ec)).toArray = V0
  generalize Value.agg (hic c2 us2 (.slice EA2 en2 ec2) lv (.slice AA an ad)).toArray = V1
  have hgr := great_any (c := c) (A := EA) (n := en) (d := ec) (w := W0) h8
  rw [decide_eq_false (by omega)] at hgr
  have hgr2 := fun W => great_any (c := c2) (A := EA2) (n := en2) (d := ec2) (w := W) h82
  simp only [decide_eq_true (show (2000 : Int) < (en2 : Int) by omega)] at hgr2
  clear h8 h82 hg hg0
  have tok1 : True := trivial; have tok2 : True := trivial; have tok3 : True := trivial; have tok4 : True := trivial
  have tok5 : True := trivial
  go_wp2_with (first | (have _t := tok1; refine wpList_load_row (o := ⟨some 7, _, _, _, _, _⟩) rfl 29 (.tmp 2) rfl w.heap.size rfl 29 _ _ _ B0 Try.underlying29 rfl hi0 ?_; clear tok1 _t) | (have _t := tok2; go_at_call 6; refine hgr.mono ?_; rintro e wa ⟨rfl, hba⟩; have r1 := hic_rg (B1.below_ hba); clear tok2 _t) | (have _t := tok3; refine wpList_load_mid_g (op := ⟨some 11, _, _, _, _, _⟩) rfl 29 (.tmp 10) rfl (w.heap.size + 1) 0 rfl (scc c2 us2 (.slice EA2 en2 ec2)) _ r1 Try.underlying29 rfl hi1 ?_; clear tok3 _t) | (have _t := tok4; go_at_call 6; refine (hgr2 _).mono ?_; rintro e wc ⟨rfl, hbc⟩; clear tok4 _t) | (have _t := tok5; go_at_call 7; refine (lives19 _).mono ?_; rintro e wl ⟨rfl, hbl⟩; clear tok5 _t))
  go_ret
  exact ⟨rfl, bnext (bnext (bnext kb hba) hbc) hbl⟩
set_option maxHeartbeats 4000000 in
set_option maxRecDepth 100000 in
theorem keeps_z {w : World} {c c2 : Cf} {us us2 : List Value} {ps ps2 : List (List CV)} {EA EA2 AA : Option Addr} {en ec en2 ec2 an ad : Nat} (hP : PIn (fun _ => False) w us ps) (hP2 : PIn (fun _ => False) w us2 ps2) (lv : Int) (hg0 : en ≤ 2000) (hg1 : en2 ≤ 2000) (hg : 2000 < an) :
    Calls Try.prog 5 #[.agg (scc c us (.slice EA en ec)).toArray, .agg (hic c2 us2 (.slice EA2 en2 ec2) lv (.slice AA an ad)).toArray] w fun e w' => e = .returned (.bool true) ∧ Below w.heap.size w w' := by
  have h8 := hP.u8
  have h82 := hP2.u8
  have hi0 := info_scc (c := c) (us := us) (ev := .slice EA en ec) h8
  have hi1 : (Try.prog.info? 29).map (·.size) = some (scc c2 us2 (.slice EA2 en2 ec2)).length := by rw [scc_len h82]; kernel_rfl
  go_enter Try.func5, Try.ntmps5
  go_upto_region 1 with (fail)
  obtain ⟨W0, hW0, B0, B1, kb⟩ : ∃ W0, (w.alloc (.cells (scc c us (.slice EA en ec)).toArray 29)).alloc (.cells (hic c2 us2 (.slice EA2 en2 ec2) lv (.slice AA an ad)).toArray 38) = W0 ∧ Blk W0 w.heap.size 29 (scc c us (.slice EA en ec)).toArray ∧ Blk W0 (w.heap.size + 1) 38 (hic c2 us2 (.slice EA2 en2 ec2) lv (.slice AA an ad)).toArray ∧ Below w.heap.size w W0 := ⟨_, rfl, (Blk.new _ _ _).alloc _, by have := Blk.new (w.alloc (.cells (scc c us (.slice EA en ec)).toArray 29)) 38 (hic c2 us2 (.slice EA2 en2 ec2) lv (.slice AA an ad)).toArray; rwa [World.size_alloc] at this, bnew (bnew (brefl w) _) _⟩
  rw [hW0]
  clear hW0
  generalize Value.agg (scc c us (.slice EA en ec)).toArray = V0
  generalize Value.agg (hic c2 us2 (.slice EA2 en2 ec2) lv (.slice AA an ad)).toArray = V1
  have hgr := great_any (c := c) (A := EA) (n := en) (d := ec) (w := W0) h8
  rw [decide_eq_false (by omega)] at hgr
  have hgr2 := fun W => great_any (c := c2) (A := EA2) (n := en2) (d := ec2) (w := W) h82
  simp only [decide_eq_false (show ¬ (2000 : Int) < (en2 : Int) by omega)] at hgr2
  have h24 := fun W h => hic_at (W := W) (q := w.heap.size + 1) (c := c2) (us := us2) (ev := .slice EA2 en2 ec2) (lv := lv) (av := .slice AA an ad) h82 h
  clear h8 h82 hg0 hg1
  have tok1 : True := trivial; have tok2 : True := trivial; have tok3 : True := trivial; have tok4 : True := trivial
  have tok5 : True := trivial
  go_wp2_with (first | (have _t := tok1; refine wpList_load_row (o := ⟨some 7, _, _, _, _, _⟩) rfl 29 (.tmp 2) rfl w.heap.size rfl 29 _ _ _ B0 Try.underlying29 rfl hi0 ?_; clear tok1 _t) | (have _t := tok2; go_at_call 6; refine hgr.mono ?_; rintro e wa ⟨rfl, hba⟩; have B1a := B1.below_ hba; have r1 := hic_rg B1a; clear tok2 _t) | (have _t := tok3; refine wpList_load_mid_g (op := ⟨some 11, _, _, _, _, _⟩) rfl 29 (.tmp 10) rfl (w.heap.size + 1) 0 rfl (scc c2 us2 (.slice EA2 en2 ec2)) _ r1 Try.underlying29 rfl hi1 ?_; clear tok3 _t) | (have _t := tok4; go_at_call 6; refine (hgr2 _).mono ?_; rintro e wc ⟨rfl, hbc⟩; have c24 := h24 _ (B1a.below_ hbc); have z24 := (B1a.below_ hbc).lt; clear h24; clear tok4 _t) | (have _t := tok5; go_at_call 7; refine (lives19 _).mono ?_; rintro e wl ⟨rfl, hbl⟩; clear tok5 _t))
  go_ret
  exact ⟨rfl, bnext (bnext (bnext kb hba) hbc) hbl⟩
end Go.Proofs.Ytijffncgokcidaa
