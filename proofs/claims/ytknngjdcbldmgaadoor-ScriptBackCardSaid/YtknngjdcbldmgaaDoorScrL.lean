/- A writer of calls. -/
import Derived.Test.YtknngjdcbldmgaaDoorScrK
namespace Go.Proofs.YtknngjdcbldmgaaDoor
set_option linter.unusedVariables false
set_option linter.unusedSimpArgs false
open Go.RowKit

theorem bits_any (n : Int) (w : World) : Calls Tryd.prog 56 #[.int .i64 n] w fun e w' => e = .returned (.int .u64 (IntKind.u64.wrap n)) ∧ w = w' := by
  go_enter Tryd.func56, Tryd.ntmps56
  go_wp2
  go_ret
  exact ⟨rfl, rfl⟩
theorem WB.drew {w : World} {B p : Nat} {bs : List Int} (h : WB w B p bs) : WB w.drew B p bs := h
theorem KP.of_drew {B : Nat} {a b : World} (h : KP B a.drew b) : KP B a b := ⟨⟨h.b.os, h.b.tape, h.b.output, h.b.size, h.b.block⟩, h.s, h.k⟩
structure ExtB (q : Nat) (t : TypeId) (cs : Array Value) where
  w : World
  k : Blk w q t cs
theorem ExtB.cell {q : Nat} {t : TypeId} {cs : Array Value} (x : ExtB q t cs) (o : Nat) : x.w.cell? ⟨q, o, none⟩ = cs[o]? := x.k.cell o
theorem extb_mem {w : World} {q : Nat} {t : TypeId} {cs : Array Value} (h : Blk w q t cs) : ∃ x : ExtB q t cs, w = x.w := ⟨⟨w, h⟩, rfl⟩
def CVu (x : CV) : Prop := U64 x.a ∧ U64 x.b ∧ U64 x.h
set_option maxHeartbeats 4000000 in
set_option maxRecDepth 100000 in
theorem wcall_any {w : World} {B p : Nat} {bs : List Int} (x : CV) (hx : CVu x) (hW : WB w B p bs) (hl : bs.length ≤ 800000000) (hBw : B ≤ w.heap.size) :
    Calls Tryd.prog 30 #[.pointer (some ⟨p, 0, none⟩), .agg (cvc x).toArray] w (PutR w B p (bs ++ callW x)) := by
  obtain ⟨W0, hW0, hB, kb, hW1, hB1⟩ : ∃ W0, w.alloc (.cells (cvc x).toArray 63) = W0 ∧ Blk W0 w.heap.size 63 #[.int .i64 x.op, .int .i64 x.lv, .int .i64 x.key, .int .u64 x.a, .int .u64 x.b, .int .u64 x.h, .int .i64 x.rg] ∧ KP B w W0 ∧ WB W0 B p bs ∧ B ≤ W0.heap.size := ⟨_, rfl, Blk.new _ _ _, (KP.refl B w).alloc hBw _, hW.alloc _, Nat.le_trans hBw (by simp)⟩
  have x0 : W0.cell? ⟨w.heap.size, 0, none⟩ = some (.int .i64 x.op) := hB.cell 0
  have x1 : W0.cell? ⟨w.heap.size, 1, none⟩ = some (.int .i64 x.lv) := hB.cell 1
  have x6 : W0.cell? ⟨w.heap.size, 6, none⟩ = some (.int .i64 x.rg) := hB.cell 6
  have hz := hB.lt
  have HB := Lib.hid (fun w' (kp : KP B W0 w') => kp.k _ _ _ (by decide) (by decide) hB)
  have hU : ∀ y, y ∈ [IntKind.u64.wrap x.key, x.a, x.b, x.h] → U64 y := by
    intro y hy
    simp only [List.mem_cons, List.not_mem_nil, or_false] at hy
    rcases hy with rfl | rfl | rfl | rfl
    · exact wrap_u _
    · exact hx.1
    · exact hx.2.1
    · exact hx.2.2
  have HU := Lib.hid hU
  clear hW hB hx hU
  go_enter Tryd.func30, Tryd.ntmps30
  go_upto_region 1 with (fail)
  go_upto_region 2 with (go_at_call 29; refine (put_w 1 3 [x.op, x.lv, x.rg] hW1 rfl (by omega) (by omega) (by omega) hB1).mono ?_; rintro e w1 ⟨rfl, hW2, kp1⟩)
  have hU := HU.out
  have D1 := HB.out w1 kp1
  have y2 := D1.cell 2
  have y3 := D1.cell 3
  have y4 := D1.cell 4
  have y5 := D1.cell 5
  have z1 := D1.lt
  have kz := kp1.s
  have hB2 : B ≤ w1.heap.size := by omega
  have hl2 : (bs ++ [x.op, x.lv, x.rg].flatMap (ub 1)).length ≤ 900000000 := by rw [List.length_append, ubs_len]; simp only [List.length_cons, List.length_nil]; omega
  obtain ⟨W1, hW1'⟩ : ∃ W1, W1 = w1 := ⟨_, rfl⟩
  subst hW1'
  have nE : Nonempty (ExtB w.heap.size 63 #[.int .i64 x.op, .int .i64 x.lv, .int .i64 x.key, .int .u64 x.a, .int .u64 x.b, .int .u64 x.h, .int .i64 x.rg]) := ⟨⟨W1, D1⟩⟩
  clear x0 x1 x6 hW1
  have hX := fun (y : ExtB w.heap.size 63 #[.int .i64 x.op, .int .i64 x.lv, .int .i64 x.key, .int .u64 x.a, .int .u64 x.b, .int .u64 x.h, .int .i64 x.rg]) o => ExtB.cell y o
  refine wp_region_noPanic ?_
  refine wp_region_tree (fun w' => ∃ x : ExtB w.heap.size 63 #[.int .i64 x.op, .int .i64 x.lv, .int .i64 x.key, .int .u64 x.a, .int .u64 x.b, .int .u64 x.h, .int .i64 x.rg], w' = x.w) (PT.one [0, 1, 2, 4, 5, 6, 7, 8, 9, 10, 11] 3 (PT.one [] 12 (PT.one [] 13 (PT.fin [])))) (by kernel_rfl) (by kernel_rfl) (by kernel_rfl) (fun _ _ _ _ _ h => h) (extb_mem D1) ?_
  refine wpTree_one ?_
  simp only [pickOps, List.getElem?_cons_succ, List.getElem?_cons_zero, Option.elim_some]
  repeat (go_big_quiet_step (fail))
  refine wpQuiet_nil ?_
  refine planAct_some (fun K hK => ?_)
  go_simp
  refine (bits_any _ _).mono ?_
  rintro e wa ⟨rfl, rfl⟩
  go_wp2_with fail
  refine hK.out _ _ (extb_mem (D1)) ?_
  clear hK K
  refine wpTree_one ?_
  simp only [pickOps, List.getElem?_cons_succ, List.getElem?_cons_zero, Option.elim_some]
  repeat (go_big_quiet_step (fail))
  refine wpQuiet_nil ?_
  refine planAct_some (fun K hK => ?_)
  go_simp
  refine hK.out _ _ (extb_mem (D1.alloc _)) ?_
  clear hK K
  refine wpTree_one ?_
  simp only [pickOps, List.getElem?_cons_succ, List.getElem?_cons_zero, Option.elim_some]
  repeat (go_big_quiet_step (fail))
  refine wpQuiet_nil ?_
  refine planAct_some (fun K hK => ?_)
  go_simp
  refine (put_new (w := W1.drew) 8 4 [IntKind.u64.wrap x.key, x.a, x.b, x.h] hW2.drew rfl hU (by omega) (by omega) hl2 hB2).mono ?_
  rintro e w5 ⟨rfl, hW3, kp3⟩
  go_wp2_with fail
  refine hK.out _ _ (extb_mem (kp3.k _ _ _ (by decide) (by decide) D1)) ?_
  clear hK K
  refine wpTree_fin ?_
  simp only [pickOps, List.getElem?_cons_succ, List.getElem?_cons_zero, Option.elim_some]
  repeat (go_big_quiet_step (fail))
  refine wpQuiet_nil ?_
  refine NoPanic.normal ?_
  clear hX
  go_wp2_with fail
  go_end0
  exact ⟨rfl, by rw [callW, ← List.append_assoc]; exact hW3, kb.trans (kp1.trans kp3.of_drew)⟩
end Go.Proofs.YtknngjdcbldmgaaDoor
