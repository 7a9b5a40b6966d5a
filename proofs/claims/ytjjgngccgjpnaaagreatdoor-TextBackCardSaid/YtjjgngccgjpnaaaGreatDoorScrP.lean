/- Scripts: whether two are the same. -/
import Derived.Test.YtjjgngccgjpnaaaGreatDoorScrI
namespace Go.Proofs.YtjjgngccgjpnaaaGreatDoor
set_option linter.unusedVariables false
set_option linter.unusedSimpArgs false
open Go.RowKit

def sameB (c c2 : Cf) (ps ps2 : List (List CV)) (es es2 : List En) : Bool := decide (c = c2 ∧ ps = ps2 ∧ es = es2)
theorem same_no {c c2 : Cf} {ps ps2 : List (List CV)} {es es2 : List En} (h : c ≠ c2 ∨ ps ≠ ps2 ∨ es ≠ es2) : sameB c c2 ps ps2 es es2 = false := decide_eq_false fun ⟨h1, h2, h3⟩ => by
  rcases h with h | h | h
  · exact h h1
  · exact h h2
  · exact h h3
theorem same_yes {c c2 : Cf} {ps ps2 : List (List CV)} {es es2 : List En} (h1 : c = c2) (h2 : ps = ps2) (h3 : es = es2) : sameB c c2 ps ps2 es es2 = true := decide_eq_true ⟨h1, h2, h3⟩
set_option maxHeartbeats 4000000 in
set_option maxRecDepth 100000 in
theorem same_a {w : World} {c c2 : Cf} {us us2 : List Value} {ps ps2 : List (List CV)} {EA EA2 : Option Addr} {en ec en2 ec2 : Nat} {es es2 : List En} (hP : PIn (fun _ => False) w us ps) (hE : Sl enc_ w EA en ec es) (hP2 : PIn (fun _ => False) w us2 ps2) (hE2 : Sl enc_ w EA2 en2 ec2 es2) (hen : en ≤ 1000000) (hen2 : en2 ≤ 1000000) (hre : ∀ l, l ∈ ps → l.length * 56 ≤ 140737488351232) (hre2 : ∀ l, l ∈ ps2 → l.length * 56 ≤ 140737488351232) (hc : c ≠ c2) :
    Calls Tryz.prog 10 #[.agg (scc c us (.slice EA en ec)).toArray, .agg (scc c2 us2 (.slice EA2 en2 ec2)).toArray] w fun e w' => e = .returned (.bool (sameB c c2 ps ps2 es es2)) ∧ Below w.heap.size w w' := by
  have h8 := hP.u8
  have h82 := hP2.u8
  have HLN := Lib.hid hE.len
  have HLN2 := Lib.hid hE2.len
  go_enter Tryz.func10, Tryz.ntmps10
  go_upto_region 1 with (fail)
  obtain ⟨W0, hW0, B0, B1, kb⟩ : ∃ W0, (w.alloc (.cells (scc c us (.slice EA en ec)).toArray 30)).alloc (.cells (scc c2 us2 (.slice EA2 en2 ec2)).toArray 30) = W0 ∧ Blk W0 w.heap.size 30 (scc c us (.slice EA en ec)).toArray ∧ Blk W0 (w.heap.size + 1) 30 (scc c2 us2 (.slice EA2 en2 ec2)).toArray ∧ Below w.heap.size w W0 := ⟨_, rfl, (Blk.new _ _ _).alloc _, by have := Blk.new (w.alloc (.cells (scc c us (.slice EA en ec)).toArray 30)) 30 (scc c2 us2 (.slice EA2 en2 ec2)).toArray; rwa [World.size_alloc] at this, bnew (bnew (brefl w) _) _⟩
  rw [hW0]
  clear hW0
  have x22 : W0.cell? ⟨w.heap.size, 22, none⟩ = some (.slice EA en ec) := (B0.cell 22).trans (by rw [List.getElem?_toArray]; exact scc_last h8)
  have y22 : W0.cell? ⟨w.heap.size + 1, 22, none⟩ = some (.slice EA2 en2 ec2) := (B1.cell 22).trans (by rw [List.getElem?_toArray]; exact scc_last h82)
  have z0 := B0.lt
  have z1 := B1.lt
  have r0 : W0.rangeAt w.heap.size 0 [.int .i64 c.lv, .int .i64 c.th, .int .i64 c.o0, .int .i64 c.o1, .int .i64 c.o2, .int .i64 c.o3, .int .i64 c.o4, .int .i64 c.o5, .int .i64 c.o6, .int .i64 c.o7, .int .i64 c.sl, .int .i64 c.li, .int .i64 c.ge, .int .i64 c.qu] := range_blk B0 0 (scc_conf c us _)
  have r1 : W0.rangeAt (w.heap.size + 1) 0 [.int .i64 c2.lv, .int .i64 c2.th, .int .i64 c2.o0, .int .i64 c2.o1, .int .i64 c2.o2, .int .i64 c2.o3, .int .i64 c2.o4, .int .i64 c2.o5, .int .i64 c2.o6, .int .i64 c2.o7, .int .i64 c2.sl, .int .i64 c2.li, .int .i64 c2.ge, .int .i64 c2.qu] := range_blk B1 0 (scc_conf c2 us2 _)
  clear h8 h82
  generalize Value.agg (scc c us (.slice EA en ec)).toArray = V0
  generalize Value.agg (scc c2 us2 (.slice EA2 en2 ec2)).toArray = V1
  have hne : ∀ w, (binOp .neq 25 (.agg #[.int .i64 c.lv, .int .i64 c.th, .int .i64 c.o0, .int .i64 c.o1, .int .i64 c.o2, .int .i64 c.o3, .int .i64 c.o4, .int .i64 c.o5, .int .i64 c.o6, .int .i64 c.o7, .int .i64 c.sl, .int .i64 c.li, .int .i64 c.ge, .int .i64 c.qu]) (.agg #[.int .i64 c2.lv, .int .i64 c2.th, .int .i64 c2.o0, .int .i64 c2.o1, .int .i64 c2.o2, .int .i64 c2.o3, .int .i64 c2.o4, .int .i64 c2.o5, .int .i64 c2.o6, .int .i64 c2.o7, .int .i64 c2.sl, .int .i64 c2.li, .int .i64 c2.ge, .int .i64 c2.qu])).run Tryz.prog w = .ok (.bool true) w := fun w => (neF c c2 w).trans (by rw [decide_eq_false hc]; rfl)
  have HE : Hid (sameB c c2 ps ps2 es es2 = false) := same_no (.inl hc)
  clear hc
  have tok1 : True := trivial; have tok2 : True := trivial
  go_wp2_with (first | (have _t := tok1; refine wpList_load_mid (op := ⟨some 8, _, _, _, _, _⟩) rfl 25 (.tmp 7) rfl w.heap.size 0 rfl [.int .i64 c.lv, .int .i64 c.th, .int .i64 c.o0, .int .i64 c.o1, .int .i64 c.o2, .int .i64 c.o3, .int .i64 c.o4, .int .i64 c.o5, .int .i64 c.o6, .int .i64 c.o7, .int .i64 c.sl, .int .i64 c.li, .int .i64 c.ge, .int .i64 c.qu] _ r0 Tryz.underlying25 rfl (by kernel_rfl) ?_; clear tok1 _t) | (have _t := tok2; refine wpList_load_mid (op := ⟨some 10, _, _, _, _, _⟩) rfl 25 (.tmp 9) rfl (w.heap.size + 1) 0 rfl [.int .i64 c2.lv, .int .i64 c2.th, .int .i64 c2.o0, .int .i64 c2.o1, .int .i64 c2.o2, .int .i64 c2.o3, .int .i64 c2.o4, .int .i64 c2.o5, .int .i64 c2.o6, .int .i64 c2.o7, .int .i64 c2.sl, .int .i64 c2.li, .int .i64 c2.ge, .int .i64 c2.qu] _ r1 Tryz.underlying25 rfl (by kernel_rfl) ?_; clear tok2 _t))
  go_ret
  exact ⟨ret_bool HE.out.symm, kb⟩
set_option maxHeartbeats 4000000 in
set_option maxRecDepth 100000 in
theorem same_b {w : World} {c c2 : Cf} {us us2 : List Value} {ps ps2 : List (List CV)} {EA EA2 : Option Addr} {en ec en2 ec2 : Nat} {es es2 : List En} (hP : PIn (fun _ => False) w us ps) (hE : Sl enc_ w EA en ec es) (hP2 : PIn (fun _ => False) w us2 ps2) (hE2 : Sl enc_ w EA2 en2 ec2 es2) (hen : en ≤ 1000000) (hen2 : en2 ≤ 1000000) (hre : ∀ l, l ∈ ps → l.length * 56 ≤ 140737488351232) (hre2 : ∀ l, l ∈ ps2 → l.length * 56 ≤ 140737488351232) (hc : c = c2) (hn : en ≠ en2) :
    Calls Tryz.prog 10 #[.agg (scc c us (.slice EA en ec)).toArray, .agg (scc c2 us2 (.slice EA2 en2 ec2)).toArray] w fun e w' => e = .returned (.bool (sameB c c2 ps ps2 es es2)) ∧ Below w.heap.size w w' := by
  have HC := Lib.hid hc
  clear hc
  have h8 := hP.u8
  have h82 := hP2.u8
  have HLN := Lib.hid hE.len
  have HLN2 := Lib.hid hE2.len
  go_enter Tryz.func10, Tryz.ntmps10
  go_upto_region 1 with (fail)
  obtain ⟨W0, hW0, B0, B1, kb⟩ : ∃ W0, (w.alloc (.cells (scc c us (.slice EA en ec)).toArray 30)).alloc (.cells (scc c2 us2 (.slice EA2 en2 ec2)).toArray 30) = W0 ∧ Blk W0 w.heap.size 30 (scc c us (.slice EA en ec)).toArray ∧ Blk W0 (w.heap.size + 1) 30 (scc c2 us2 (.slice EA2 en2 ec2)).toArray ∧ Below w.heap.size w W0 := ⟨_, rfl, (Blk.new _ _ _).alloc _, by have := Blk.new (w.alloc (.cells (scc c us (.slice EA en ec)).toArray 30)) 30 (scc c2 us2 (.slice EA2 en2 ec2)).toArray; rwa [World.size_alloc] at this, bnew (bnew (brefl w) _) _⟩
  rw [hW0]
  clear hW0
  have x22 : W0.cell? ⟨w.heap.size, 22, none⟩ = some (.slice EA en ec) := (B0.cell 22).trans (by rw [List.getElem?_toArray]; exact scc_last h8)
  have y22 : W0.cell? ⟨w.heap.size + 1, 22, none⟩ = some (.slice EA2 en2 ec2) := (B1.cell 22).trans (by rw [List.getElem?_toArray]; exact scc_last h82)
  have z0 := B0.lt
  have z1 := B1.lt
  have r0 : W0.rangeAt w.heap.size 0 [.int .i64 c.lv, .int .i64 c.th, .int .i64 c.o0, .int .i64 c.o1, .int .i64 c.o2, .int .i64 c.o3, .int .i64 c.o4, .int .i64 c.o5, .int .i64 c.o6, .int .i64 c.o7, .int .i64 c.sl, .int .i64 c.li, .int .i64 c.ge, .int .i64 c.qu] := range_blk B0 0 (scc_conf c us _)
  have r1 : W0.rangeAt (w.heap.size + 1) 0 [.int .i64 c2.lv, .int .i64 c2.th, .int .i64 c2.o0, .int .i64 c2.o1, .int .i64 c2.o2, .int .i64 c2.o3, .int .i64 c2.o4, .int .i64 c2.o5, .int .i64 c2.o6, .int .i64 c2.o7, .int .i64 c2.sl, .int .i64 c2.li, .int .i64 c2.ge, .int .i64 c2.qu] := range_blk B1 0 (scc_conf c2 us2 _)
  clear h8 h82
  generalize Value.agg (scc c us (.slice EA en ec)).toArray = V0
  generalize Value.agg (scc c2 us2 (.slice EA2 en2 ec2)).toArray = V1
  have hne : ∀ w, (binOp .neq 25 (.agg #[.int .i64 c.lv, .int .i64 c.th, .int .i64 c.o0, .int .i64 c.o1, .int .i64 c.o2, .int .i64 c.o3, .int .i64 c.o4, .int .i64 c.o5, .int .i64 c.o6, .int .i64 c.o7, .int .i64 c.sl, .int .i64 c.li, .int .i64 c.ge, .int .i64 c.qu]) (.agg #[.int .i64 c2.lv, .int .i64 c2.th, .int .i64 c2.o0, .int .i64 c2.o1, .int .i64 c2.o2, .int .i64 c2.o3, .int .i64 c2.o4, .int .i64 c2.o5, .int .i64 c2.o6, .int .i64 c2.o7, .int .i64 c2.sl, .int .i64 c2.li, .int .i64 c2.ge, .int .i64 c2.qu])).run Tryz.prog w = .ok (.bool false) w := fun w => (neF c c2 w).trans (by rw [decide_eq_true HC.out]; rfl)
  have t1 : ((en : Int) != (en2 : Int)) = true := by rw [bne_iff_ne]; omega
  have HE : Hid (sameB c c2 ps ps2 es es2 = false) := same_no (.inr (.inr fun e => hn (by have h1 := HLN.out; have h2 := HLN2.out; rw [e] at h1; omega)))
  clear hn
  have tok1 : True := trivial; have tok2 : True := trivial
  go_wp2_with (first | (have _t := tok1; refine wpList_load_mid (op := ⟨some 8, _, _, _, _, _⟩) rfl 25 (.tmp 7) rfl w.heap.size 0 rfl [.int .i64 c.lv, .int .i64 c.th, .int .i64 c.o0, .int .i64 c.o1, .int .i64 c.o2, .int .i64 c.o3, .int .i64 c.o4, .int .i64 c.o5, .int .i64 c.o6, .int .i64 c.o7, .int .i64 c.sl, .int .i64 c.li, .int .i64 c.ge, .int .i64 c.qu] _ r0 Tryz.underlying25 rfl (by kernel_rfl) ?_; clear tok1 _t) | (have _t := tok2; refine wpList_load_mid (op := ⟨some 10, _, _, _, _, _⟩) rfl 25 (.tmp 9) rfl (w.heap.size + 1) 0 rfl [.int .i64 c2.lv, .int .i64 c2.th, .int .i64 c2.o0, .int .i64 c2.o1, .int .i64 c2.o2, .int .i64 c2.o3, .int .i64 c2.o4, .int .i64 c2.o5, .int .i64 c2.o6, .int .i64 c2.o7, .int .i64 c2.sl, .int .i64 c2.li, .int .i64 c2.ge, .int .i64 c2.qu] _ r1 Tryz.underlying25 rfl (by kernel_rfl) ?_; clear tok2 _t))
  go_ret
  exact ⟨ret_bool HE.out.symm, kb⟩
set_option maxHeartbeats 4000000 in
set_option maxRecDepth 100000 in
theorem same_c {w : World} {c c2 : Cf} {us us2 : List Value} {ps ps2 : List (List CV)} {EA EA2 : Option Addr} {en ec en2 ec2 : Nat} {es es2 : List En} (hP : PIn (fun _ => False) w us ps) (hE : Sl enc_ w EA en ec es) (hP2 : PIn (fun _ => False) w us2 ps2) (hE2 : Sl enc_ w EA2 en2 ec2 es2) (hen : en ≤ 1000000) (hen2 : en2 ≤ 1000000) (hre : ∀ l, l ∈ ps → l.length * 56 ≤ 140737488351232) (hre2 : ∀ l, l ∈ ps2 → l.length * 56 ≤ 140737488351232) (hc : c = c2) (hn : en = en2) :
    Calls Tryz.prog 10 #[.agg (scc c us (.slice EA en ec)).toArray, .agg (scc c2 us2 (.slice EA2 en2 ec2)).toArray] w fun e w' => e = .returned (.bool (sameB c c2 ps ps2 es es2)) ∧ Below w.heap.size w w' := by
  have HC := Lib.hid hc
  have HN := Lib.hid hn
  clear hc hn
  have h8 := hP.u8
  have h82 := hP2.u8
  have HLN := Lib.hid hE.len
  have HLN2 := Lib.hid hE2.len
  go_enter Tryz.func10, Tryz.ntmps10
  go_upto_region 1 with (fail)
  obtain ⟨W0, hW0, B0, B1, kb⟩ : ∃ W0, (w.alloc (.cells (scc c us (.slice EA en ec)).toArray 30)).alloc (.cells (scc c2 us2 (.slice EA2 en2 ec2)).toArray 30) = W0 ∧ Blk W0 w.heap.size 30 (scc c us (.slice EA en ec)).toArray ∧ Blk W0 (w.heap.size + 1) 30 (scc c2 us2 (.slice EA2 en2 ec2)).toArray ∧ Below w.heap.size w W0 := ⟨_, rfl, (Blk.new _ _ _).alloc _, by have := Blk.new (w.alloc (.cells (scc c us (.slice EA en ec)).toArray 30)) 30 (scc c2 us2 (.slice EA2 en2 ec2)).toArray; rwa [World.size_alloc] at this, bnew (bnew (brefl w) _) _⟩
  rw [hW0]
  clear hW0
  have x22 : W0.cell? ⟨w.heap.size, 22, none⟩ = some (.slice EA en ec) := (B0.cell 22).trans (by rw [List.getElem?_toArray]; exact scc_last h8)
  have y22 : W0.cell? ⟨w.heap.size + 1, 22, none⟩ = some (.slice EA2 en2 ec2) := (B1.cell 22).trans (by rw [List.getElem?_toArray]; exact scc_last h82)
  have z0 := B0.lt
  have z1 := B1.lt
  have r0 : W0.rangeAt w.heap.size 0 [.int .i64 c.lv, .int .i64 c.th, .int .i64 c.o0, .int .i64 c.o1, .int .i64 c.o2, .int .i64 c.o3, .int .i64 c.o4, .int .i64 c.o5, .int .i64 c.o6, .int .i64 c.o7, .int .i64 c.sl, .int .i64 c.li, .int .i64 c.ge, .int .i64 c.qu] := range_blk B0 0 (scc_conf c us _)
  have r1 : W0.rangeAt (w.heap.size + 1) 0 [.int .i64 c2.lv, .int .i64 c2.th, .int .i64 c2.o0, .int .i64 c2.o1, .int .i64 c2.o2, .int .i64 c2.o3, .int .i64 c2.o4, .int .i64 c2.o5, .int .i64 c2.o6, .int .i64 c2.o7, .int .i64 c2.sl, .int .i64 c2.li, .int .i64 c2.ge, .int .i64 c2.qu] := range_blk B1 0 (scc_conf c2 us2 _)
  clear h8 h82
  generalize Value.agg (scc c us (.slice EA en ec)).toArray = V0
  generalize Value.agg (scc c2 us2 (.slice EA2 en2 ec2)).toArray = V1
  have hne : ∀ w, (binOp .neq 25 (.agg #[.int .i64 c.lv, .int .i64 c.th, .int .i64 c.o0, .int .i64 c.o1, .int .i64 c.o2, .int .i64 c.o3, .int .i64 c.o4, .int .i64 c.o5, .int .i64 c.o6, .int .i64 c.o7, .int .i64 c.sl, .int .i64 c.li, .int .i64 c.ge, .int .i64 c.qu]) (.agg #[.int .i64 c2.lv, .int .i64 c2.th, .int .i64 c2.o0, .int .i64 c2.o1, .int .i64 c2.o2, .int .i64 c2.o3, .int .i64 c2.o4, .int .i64 c2.o5, .int .i64 c2.o6, .int .i64 c2.o7, .int .i64 c2.sl, .int .i64 c2.li, .int .i64 c2.ge, .int .i64 c2.qu])).run Tryz.prog w = .ok (.bool false) w := fun w => (neF c c2 w).trans (by rw [decide_eq_true HC.out]; rfl)
  have t1 : ((en : Int) != (en2 : Int)) = false := by rw [HN.out]; simp
  have tok1 : True := trivial; have tok2 : True := trivial
  go_upto_region 3 with (first | (have _t := tok1; refine wpList_load_mid (op := ⟨some 8, _, _, _, _, _⟩) rfl 25 (.tmp 7) rfl w.heap.size 0 rfl [.int .i64 c.lv, .int .i64 c.th, .int .i64 c.o0, .int .i64 c.o1, .int .i64 c.o2, .int .i64 c.o3, .int .i64 c.o4, .int .i64 c.o5, .int .i64 c.o6, .int .i64 c.o7, .int .i64 c.sl, .int .i64 c.li, .int .i64 c.ge, .int .i64 c.qu] _ r0 Tryz.underlying25 rfl (by kernel_rfl) ?_; clear tok1 _t) | (have _t := tok2; refine wpList_load_mid (op := ⟨some 10, _, _, _, _, _⟩) rfl 25 (.tmp 9) rfl (w.heap.size + 1) 0 rfl [.int .i64 c2.lv, .int .i64 c2.th, .int .i64 c2.o0, .int .i64 c2.o1, .int .i64 c2.o2, .int .i64 c2.o3, .int .i64 c2.o4, .int .i64 c2.o5, .int .i64 c2.o6, .int .i64 c2.o7, .int .i64 c2.sl, .int .i64 c2.li, .int .i64 c2.ge, .int .i64 c2.qu] _ r1 Tryz.underlying25 rfl (by kernel_rfl) ?_; clear tok2 _t))
  clear hne r0 r1
  generalize Value.agg #[.int .i64 c.lv, .int .i64 c.th, .int .i64 c.o0, .int .i64 c.o1, .int .i64 c.o2, .int .i64 c.o3, .int .i64 c.o4, .int .i64 c.o5, .int .i64 c.o6, .int .i64 c.o7, .int .i64 c.sl, .int .i64 c.li, .int .i64 c.ge, .int .i64 c.qu] = V8
  generalize Value.agg #[.int .i64 c2.lv, .int .i64 c2.th, .int .i64 c2.o0, .int .i64 c2.o1, .int .i64 c2.o2, .int .i64 c2.o3, .int .i64 c2.o4, .int .i64 c2.o5, .int .i64 c2.o6, .int .i64 c2.o7, .int .i64 c2.sl, .int .i64 c2.li, .int .i64 c2.ge, .int .i64 c2.qu] = V10
  go_wp2_with fail
  go_loopg [5] en (fun gk i wr => ∃ k : Nat, k + gk = en ∧ i = .int .i64 k ∧ Hid (es.take k = es2.take k) ∧ Below W0.heap.size W0 wr)
  case atStart => exact ⟨0, by omega, rfl, rfl, brefl W0⟩
  case round =>
    obtain ⟨k, hk, rfl, hT, kr⟩ := hrel
    have x2 := keep_below x22 kr
    have y2 := keep_below y22 kr
    have zz0 := block_lt_of_cell x2
    have zz1 := block_lt_of_cell y2
    have kbr := kb.trans (kr.mono (by omega))
    by_cases hlt : k < en
    · obtain ⟨b, o', rfl, _, _⟩ := hE.base enc__len (by decide) (by omega)
      obtain ⟨b2, o2', rfl, _, _⟩ := hE2.base enc__len (by decide) (by have := HN.out; omega)
      obtain ⟨e, he⟩ : ∃ e, es[k]? = some e := ⟨es[k]'(by have := HLN.out; omega), List.getElem?_eq_getElem (i := k) _⟩
      obtain ⟨e2, he2⟩ : ∃ e, es2[k]? = some e := ⟨es2[k]'(by have := HN.out; have := HLN2.out; omega), List.getElem?_eq_getElem (i := k) _⟩
      have r2 := range_sl enc__len (hE.below kbr) he
      have r3 := range_sl enc__len (hE2.below kbr) he2
      have hnee := neE e e2
      have hi := info_enc_ e
      have hi2 := info_enc_ e2
      have b0 : (0 : Int) ≤ (k : Int) := by omega
      have b1 : (k : Int) < (en : Int) := by omega
      have b2x : (k : Int) < (en2 : Int) := by have := HN.out; omega
      have HT : Hid ((es.take (k + 1) = es2.take (k + 1)) ↔ e = e2) := take_eq_step hT.out he he2
      clear he he2 hT
      generalize enc_ e = cs at *
      generalize enc_ e2 = cs' at *
      go_upto_region 6 with (fail)
      obtain ⟨W3, hW3⟩ : ∃ W3, W3 = wr := ⟨_, rfl⟩
      subst hW3
      by_cases hee : e = e2
      · rw [decide_eq_true hee] at hnee
        have HE := Lib.hid (HT.out.2 hee)
        clear hee HT
        have hX := @Ext.cell W3
        have hzz0 := block_lt_of_cell x2
        have hzz1 := block_lt_of_cell y2
        refine wp_region_noPanic ?_
        refine wp_region_plan (fun w' => ∃ x : Ext W3, w' = x.w) [] [0, 1, 2, 3, 4, 5, 6, 7, 8, 9, 10] (by kernel_rfl) (by kernel_rfl) (by kernel_rfl) (fun _ _ _ _ _ h => h) ⟨⟨_, (brefl W3).drew⟩, rfl⟩ ?_
        refine wpPlan_last ?_
        simp only [pickOps, List.getElem?_cons_succ, List.getElem?_cons_zero, Option.elim_some]
        go_big_quiet_step (fail)
        go_big_quiet_step (fail)
        go_big_quiet_step (fail)
        go_big_quiet_step (fail)
        refine wpQuiet_load_mid rfl 61 (.tmp 31) rfl b (o' + k * 2) rfl cs _ (range_ext r2) Tryz.underlying61 rfl hi ?_; simp only [Act.put, List.setIfInBounds_toArray, List.set_cons_succ, List.set_cons_zero]
        go_big_quiet_step (fail)
        go_big_quiet_step (fail)
        go_big_quiet_step (fail)
        go_big_quiet_step (fail)
        refine wpQuiet_load_mid rfl 61 (.tmp 36) rfl b2 (o2' + k * 2) rfl cs' _ (range_ext r3) Tryz.underlying61 rfl hi2 ?_; simp only [Act.put, List.setIfInBounds_toArray, List.set_cons_succ, List.set_cons_zero]
        go_big_quiet_step (fail)
        refine wpQuiet_nil ?_
        refine NoPanic.normal ?_
        clear hX hzz0 hzz1
        go_wp2_with fail
        go_roundg (gk - 1)
        case measure => omega
        case rel => exact ⟨k + 1, by omega, by go_num, HE.out, kr.drew⟩
      · rw [decide_eq_false hee] at hnee
        have HE : Hid (sameB c c2 ps ps2 es es2 = false) := same_no (.inr (.inr fun e => hee (HT.out.1 (by rw [e]))))
        clear hee HT
        have hX := @Ext.cell W3
        have hzz0 := block_lt_of_cell x2
        have hzz1 := block_lt_of_cell y2
        refine wp_region_noPanic ?_
        refine wp_region_plan (fun w' => ∃ x : Ext W3, w' = x.w) [] [0, 1, 2, 3, 4, 5, 6, 7, 8, 9, 10] (by kernel_rfl) (by kernel_rfl) (by kernel_rfl) (fun _ _ _ _ _ h => h) ⟨⟨_, (brefl W3).drew⟩, rfl⟩ ?_
        refine wpPlan_last ?_
        simp only [pickOps, List.getElem?_cons_succ, List.getElem?_cons_zero, Option.elim_some]
        go_big_quiet_step (fail)
        go_big_quiet_step (fail)
        go_big_quiet_step (fail)
        go_big_quiet_step (fail)
        refine wpQuiet_load_mid rfl 61 (.tmp 31) rfl b (o' + k * 2) rfl cs _ (range_ext r2) Tryz.underlying61 rfl hi ?_; simp only [Act.put, List.setIfInBounds_toArray, List.set_cons_succ, List.set_cons_zero]
        go_big_quiet_step (fail)
        go_big_quiet_step (fail)
        go_big_quiet_step (fail)
        go_big_quiet_step (fail)
        refine wpQuiet_load_mid rfl 61 (.tmp 36) rfl b2 (o2' + k * 2) rfl cs' _ (range_ext r3) Tryz.underlying61 rfl hi2 ?_; simp only [Act.put, List.setIfInBounds_toArray, List.set_cons_succ, List.set_cons_zero]
        go_big_quiet_step (fail)
        refine wpQuiet_nil ?_
        refine NoPanic.normal ?_
        clear hX hzz0 hzz1
        go_wp2_with fail
        go_ret
        exact ⟨ret_bool HE.out.symm, kbr.drew⟩
    · have hge : ¬ ((k : Int) < (en : Int)) := by omega
      have HES : Hid (es = es2) := by
        have h1 := hT.out
        have h2 := HN.out
        have h3 := HLN.out
        have h4 := HLN2.out
        rwa [List.take_of_length_le (by omega), List.take_of_length_le (by omega)] at h1
      clear hT hlt
      go_wp2_with fail
      clear hge x2 y2 hk t1
      rename_i kk _ _ _ _ _ _ _ _ _
      go_loopg [6] 8 (fun gk i wr => ∃ k : Nat, k + gk = 8 ∧ i = .int .i64 k ∧ Hid (ps.take k = ps2.take k) ∧ Below W0.heap.size W0 wr)
      case atStart => exact ⟨0, by omega, rfl, rfl, kr⟩
      case round =>
        obtain ⟨k, hk, rfl, hT, kr⟩ := hrel
        by_cases hlt : k < 8
        · obtain ⟨l, hl⟩ : ∃ l, ps[k]? = some l := ⟨ps[k]'(by have := hP.p8; omega), List.getElem?_eq_getElem (i := k) _⟩
          obtain ⟨l2, hl2⟩ : ∃ l, ps2[k]? = some l := ⟨ps2[k]'(by have := hP2.p8; omega), List.getElem?_eq_getElem (i := k) _⟩
          obtain ⟨A, n, c', hu, hs, _⟩ := hP.at_ k l hl
          obtain ⟨A2, n2, c2', hu2, hs2, _⟩ := hP2.at_ k l2 hl2
          have b0 : (0 : Int) ≤ (k : Int) := by omega
          have b1 : (k : Int) < 8 := by omega
          have v0 : wr.cell? ⟨w.heap.size, 14 + k, none⟩ = some (.slice A n c') := keep_below ((B0.cell _).trans (by rw [List.getElem?_toArray]; exact scc_get hu)) kr
          have v1 : wr.cell? ⟨w.heap.size + 1, 14 + k, none⟩ = some (.slice A2 n2 c2') := keep_below ((B1.cell _).trans (by rw [List.getElem?_toArray]; exact scc_get hu2)) kr
          have hn1 : n ≤ 9223372036854775807 := by have := hre l (List.mem_of_getElem? hl); have := hs.len; omega
          have hn2 : n2 ≤ 9223372036854775807 := by have := hre2 l2 (List.mem_of_getElem? hl2); have := hs2.len; omega
          have kbr := kb.trans (kr.mono (by omega))
          have hcall := fun (W : World) (hW : Below wr.heap.size wr W) => calls_any ((hs.below kbr).below hW) ((hs2.below kbr).below hW) hn1 hn2
          have HT : Hid ((ps.take (k + 1) = ps2.take (k + 1)) ↔ l = l2) := take_eq_step hT.out hl hl2
          clear hu hu2 hl hl2 hT hs hs2 hn1 hn2
          go_upto_region 11 with (fail)
          obtain ⟨W3, hW3⟩ : ∃ W3, W3 = wr := ⟨_, rfl⟩
          subst hW3
          by_cases hll : l = l2
          · rw [decide_eq_true hll] at hcall
            have HE := Lib.hid (HT.out.2 hll)
            clear hll HT
            have hX := @Ext.cell W3
            have hzz0 := block_lt_of_cell v0
            have hzz1 := block_lt_of_cell v1
            refine wp_region_noPanic ?_
            refine wp_region_plan (fun w' => ∃ x : Ext W3, w' = x.w) [([0, 1, 2, 3, 4, 5, 6, 7], 8)] [9] (by kernel_rfl) (by kernel_rfl) (by kernel_rfl) (fun _ _ _ _ _ h => h) ⟨⟨_, (brefl W3).drew⟩, rfl⟩ ?_
            refine wpPlan_cons ?_
            simp only [pickOps, List.getElem?_cons_succ, List.getElem?_cons_zero, Option.elim_some]
            repeat (go_big_quiet_step (fail))
            refine wpQuiet_nil ?_
            refine planAct_some (fun K hK => ?_)
            go_simp
            refine (hcall _ (brefl W3).drew).mono ?_
            rintro e wa ⟨rfl, hba⟩
            go_wp2_with fail
            refine hK.out _ _ ⟨⟨_, (bnext (brefl W3).drew hba)⟩, rfl⟩ ?_
            clear hK K
            refine wpPlan_last ?_
            simp only [pickOps, List.getElem?_cons_succ, List.getElem?_cons_zero, Option.elim_some]
            repeat (go_big_quiet_step (fail))
            refine wpQuiet_nil ?_
            refine NoPanic.normal ?_
            clear hX hzz0 hzz1
            have hb2 := bnext (brefl W3).drew hba
            clear hba hcall v0 v1
            go_wp2_with fail
            go_roundg (gk - 1)
            case measure => omega
            case rel => exact ⟨k + 1, by omega, by go_num, HE.out, bnext kr hb2⟩
          · rw [decide_eq_false hll] at hcall
            have HE : Hid (sameB c c2 ps ps2 es es2 = false) := same_no (.inr (.inl fun e => hll (HT.out.1 (by rw [e]))))
            clear hll HT
            have hX := @Ext.cell W3
            have hzz0 := block_lt_of_cell v0
            have hzz1 := block_lt_of_cell v1
            refine wp_region_noPanic ?_
            refine wp_region_plan (fun w' => ∃ x : Ext W3, w' = x.w) [([0, 1, 2, 3, 4, 5, 6, 7], 8)] [9] (by kernel_rfl) (by kernel_rfl) (by kernel_rfl) (fun _ _ _ _ _ h => h) ⟨⟨_, (brefl W3).drew⟩, rfl⟩ ?_
            refine wpPlan_cons ?_
            simp only [pickOps, List.getElem?_cons_succ, List.getElem?_cons_zero, Option.elim_some]
            repeat (go_big_quiet_step (fail))
            refine wpQuiet_nil ?_
            refine planAct_some (fun K hK => ?_)
            go_simp
            refine (hcall _ (brefl W3).drew).mono ?_
            rintro e wa ⟨rfl, hba⟩
            go_wp2_with fail
            refine hK.out _ _ ⟨⟨_, (bnext (brefl W3).drew hba)⟩, rfl⟩ ?_
            clear hK K
            refine wpPlan_last ?_
            simp only [pickOps, List.getElem?_cons_succ, List.getElem?_cons_zero, Option.elim_some]
            repeat (go_big_quiet_step (fail))
            refine wpQuiet_nil ?_
            refine NoPanic.normal ?_
            clear hX hzz0 hzz1
            have hb2 := bnext (brefl W3).drew hba
            clear hba hcall v0 v1
            go_wp2_with fail
            go_ret
            exact ⟨ret_bool HE.out.symm, bnext kbr hb2⟩
        · have hge : ¬ ((k : Int) < 8) := by omega
          have HP : Hid (ps = ps2) := by
            have h1 := hT.out
            rwa [List.take_of_length_le (by have := hP.p8; omega), List.take_of_length_le (by have := hP2.p8; omega)] at h1
          have kbr := kb.trans (kr.mono (by omega))
          go_wp2
          go_ret
          exact ⟨ret_bool (same_yes HC.out HP.out HES.out).symm, kbr⟩
theorem same_any {w : World} {c c2 : Cf} {us us2 : List Value} {ps ps2 : List (List CV)} {EA EA2 : Option Addr} {en ec en2 ec2 : Nat} {es es2 : List En} (hP : PIn (fun _ => False) w us ps) (hE : Sl enc_ w EA en ec es) (hP2 : PIn (fun _ => False) w us2 ps2) (hE2 : Sl enc_ w EA2 en2 ec2 es2) (hen : en ≤ 1000000) (hen2 : en2 ≤ 1000000) (hre : ∀ l, l ∈ ps → l.length * 56 ≤ 140737488351232) (hre2 : ∀ l, l ∈ ps2 → l.length * 56 ≤ 140737488351232) :
    Calls Tryz.prog 10 #[.agg (scc c us (.slice EA en ec)).toArray, .agg (scc c2 us2 (.slice EA2 en2 ec2)).toArray] w fun e w' => e = .returned (.bool (sameB c c2 ps ps2 es es2)) ∧ Below w.heap.size w w' := by
  by_cases hc : c = c2
  · by_cases hn : en = en2
    · exact same_c hP hE hP2 hE2 hen hen2 hre hre2 hc hn
    · exact same_b hP hE hP2 hE2 hen hen2 hre hre2 hc hn
  · exact same_a hP hE hP2 hE2 hen hen2 hre hre2 hc
end Go.Proofs.YtjjgngccgjpnaaaGreatDoor
