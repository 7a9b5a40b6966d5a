/- What may give up is tried. -/
import Derived.Test.YtjjgngccgjpnaaaGreatDoorTxtL
import Derived.Defers
import Derived.Recover
namespace Go.Proofs.YtjjgngccgjpnaaaGreatDoor
set_option linter.unusedVariables false
set_option linter.unusedSimpArgs false
open Go.RowKit

set_option maxHeartbeats 4000000 in
set_option maxRecDepth 100000 in
theorem try_idle {w : World} {a : Nat} (ha : Blk w a 4 #[.bool true]) :
    CallsD Tryz.prog 63 #[.pointer (some ⟨a, 0, none⟩)] .returning w fun e u' w' => e = .returned (.tuple #[]) ∧ u' = .returning ∧ Blk w' a 4 #[.bool true] ∧ Keeps (fun b => b = a) w w' := by
  have y0 := ha.cell 0
  have f0 := ha.frozen 0
  have z0 := ha.lt
  refine callsD_of_wpS Tryz.func63 rfl fun c₀ cs hu => ?_
  apply wpS_seq
  apply wpS_region
  simp [wpOpsS, go_sem, recoverD, hu, Tryz.ntmps63, Exit.thenS]
  refine wpS_of_wp ?_
  have e0 : ((#[.pointer (some ⟨a, 0, none⟩)] : Array Value) ++ ((Array.replicate 10 undef).setIfInBounds 1 Value.nilIface).setIfInBounds 0 Value.nilIface) = #[.pointer (some ⟨a, 0, none⟩), .nilIface, .nilIface, undef, undef, undef, undef, undef, undef, undef, undef] := rfl
  rw [e0]
  go_wp2_with fail
  have HB := ha.set_ 0 (.bool true)
  have HK := (Keeps.refl (fun b => b = a) w).setCell (p := ⟨a, 0, none⟩) (fun _ => rfl) (.bool true)
  refine ⟨rfl, .returning, ?_, .tuple #[], by simp [results, Tryz.results63, go_sem], rfl, rfl, HB, HK⟩
  cases c₀
  simp_all
set_option maxHeartbeats 4000000 in
set_option maxRecDepth 100000 in
theorem try_wrong {w : World} {a : Nat} (ha : Blk w a 4 #[.bool false]) (older : List PanicEntry) :
    CallsD Tryz.prog 63 #[.pointer (some ⟨a, 0, none⟩)] (.panicking ({ v := .iface 114 (.agg #[]), recovered := false } :: older)) w fun e u' w' => e = .returned (.tuple #[]) ∧ u' = .panicking ({ v := .iface 114 (.agg #[]), recovered := true } :: older) ∧ w = w' := by
  refine callsD_of_wpS Tryz.func63 rfl fun c₀ cs hu => ?_
  apply wpS_seq
  apply wpS_region
  simp [wpOpsS, go_sem, recoverD, hu, Tryz.ntmps63, Exit.thenS]
  refine wpS_of_wp ?_
  have e0 : ((#[.pointer (some ⟨a, 0, none⟩)] : Array Value) ++ ((Array.replicate 10 undef).setIfInBounds 1 (.iface 114 (.agg #[]))).setIfInBounds 0 (.iface 114 (.agg #[]))) = #[.pointer (some ⟨a, 0, none⟩), .iface 114 (.agg #[]), .iface 114 (.agg #[]), undef, undef, undef, undef, undef, undef, undef, undef] := rfl
  rw [e0]
  have hq : ∀ W : World, (binOp .eql 20 (.iface 114 (.agg #[])) (.iface 114 (.agg #[]))).run Tryz.prog W = .ok (.bool true) W := fun W => by kernel_rfl
  go_wp2_with fail
  refine ⟨rfl, .panicking ({ v := .iface 114 (.agg #[]), recovered := true } :: older), rfl, .tuple #[], by simp [results, Tryz.results63, go_sem], rfl, rfl, rfl⟩
set_option maxHeartbeats 4000000 in
set_option maxRecDepth 100000 in
theorem try_yes_l {w : World} {c1 c2 : Value} {Y : World → Prop} (hc : Calls Tryz.prog 24 #[c1, c2] (w.alloc (.cells #[.bool false] 4)) fun e w' => e = .returned (.tuple #[]) ∧ Blk w' w.heap.size 4 #[.bool false] ∧ Y w') :
    Calls Tryz.prog 28 #[.func (.func 24) #[] #[c1, c2]] w fun e w'' => e = .returned (.bool true) ∧ ∃ w', Y w' ∧ Keeps (fun b => b = w.heap.size) w' w'' := by
  have hmf : ∀ (fn : Fn) (first cap : Array Value) (w : World), (Instr.makeFunc fn first cap).run Tryz.prog w = .ok (.func fn first cap) w := fun _ _ _ _ => rfl
  go_enter_defers Tryz.func28, Tryz.ntmps28
  go_upto_region 2 with (fail)
  go_wp2_with (go_at_call 24; refine hc.mono ?_; rintro e w1 ⟨rfl, hb, hy⟩; have y0 := hb.cell 0; have f0 := hb.frozen 0; have z0 := hb.lt)
  refine leaves_cons (u := .returning) (f := 63) (args := #[.pointer (some ⟨w.heap.size, 0, none⟩)]) (by simp) (by simp [go_sem]) ?_
  refine (try_idle (a := w.heap.size) (hb.set_ 0 (.bool true))).mono ?_
  rintro e u' w3 ⟨rfl, rfl, hB, hK⟩
  have hK2 := ((Keeps.refl (fun b => b = w.heap.size) w1).setCell (p := ⟨w.heap.size, 0, none⟩) (fun _ => rfl) (.bool true)).trans_ hK
  have y3 := hB.cell 0
  exact ⟨.bool true, by simp [results, Tryz.results28, go_sem, y3], rfl, w1, hy, hK2⟩
set_option maxHeartbeats 4000000 in
set_option maxRecDepth 100000 in
theorem try_yes_c {w : World} {c1 c2 : Value} {Y : World → Prop} (hc : Calls Tryz.prog 26 #[c1, c2] (w.alloc (.cells #[.bool false] 4)) fun e w' => e = .returned (.tuple #[]) ∧ Blk w' w.heap.size 4 #[.bool false] ∧ Y w') :
    Calls Tryz.prog 28 #[.func (.func 26) #[] #[c1, c2]] w fun e w'' => e = .returned (.bool true) ∧ ∃ w', Y w' ∧ Keeps (fun b => b = w.heap.size) w' w'' := by
  have hmf : ∀ (fn : Fn) (first cap : Array Value) (w : World), (Instr.makeFunc fn first cap).run Tryz.prog w = .ok (.func fn first cap) w := fun _ _ _ _ => rfl
  go_enter_defers Tryz.func28, Tryz.ntmps28
  go_upto_region 2 with (fail)
  go_wp2_with (go_at_call 26; refine hc.mono ?_; rintro e w1 ⟨rfl, hb, hy⟩; have y0 := hb.cell 0; have f0 := hb.frozen 0; have z0 := hb.lt)
  refine leaves_cons (u := .returning) (f := 63) (args := #[.pointer (some ⟨w.heap.size, 0, none⟩)]) (by simp) (by simp [go_sem]) ?_
  refine (try_idle (a := w.heap.size) (hb.set_ 0 (.bool true))).mono ?_
  rintro e u' w3 ⟨rfl, rfl, hB, hK⟩
  have hK2 := ((Keeps.refl (fun b => b = w.heap.size) w1).setCell (p := ⟨w.heap.size, 0, none⟩) (fun _ => rfl) (.bool true)).trans_ hK
  have y3 := hB.cell 0
  exact ⟨.bool true, by simp [results, Tryz.results28, go_sem, y3], rfl, w1, hy, hK2⟩
set_option maxHeartbeats 4000000 in
set_option maxRecDepth 100000 in
theorem try_no_l {w : World} {c1 c2 : Value} {Y : World → Prop} (hc : Calls Tryz.prog 24 #[c1, c2] (w.alloc (.cells #[.bool false] 4)) fun e w' => PanW e ∧ Blk w' w.heap.size 4 #[.bool false] ∧ Y w') :
    Calls Tryz.prog 28 #[.func (.func 24) #[] #[c1, c2]] w fun e w'' => e = .returned (.bool false) ∧ Y w'' := by
  have hmf : ∀ (fn : Fn) (first cap : Array Value) (w : World), (Instr.makeFunc fn first cap).run Tryz.prog w = .ok (.func fn first cap) w := fun _ _ _ _ => rfl
  go_enter_defers Tryz.func28, Tryz.ntmps28
  go_upto_region 2 with (fail)
  go_wp2_with (go_at_call 24; refine hc.mono ?_; rintro e w1 ⟨rfl, hb, hy⟩)
  refine leaves_cons (f := 63) (args := #[.pointer (some ⟨w.heap.size, 0, none⟩)]) (by simp) (by simp [go_sem]) ?_
  refine (try_wrong (a := w.heap.size) hb []).mono ?_
  rintro e u' w3 ⟨rfl, rfl, rfl⟩
  have y3 := hb.cell 0
  exact ⟨.bool false, by simp [results, Tryz.results28, go_sem, y3], rfl, hy⟩
set_option maxHeartbeats 4000000 in
set_option maxRecDepth 100000 in
theorem try_no_c {w : World} {c1 c2 : Value} {Y : World → Prop} (hc : Calls Tryz.prog 26 #[c1, c2] (w.alloc (.cells #[.bool false] 4)) fun e w' => PanW e ∧ Blk w' w.heap.size 4 #[.bool false] ∧ Y w') :
    Calls Tryz.prog 28 #[.func (.func 26) #[] #[c1, c2]] w fun e w'' => e = .returned (.bool false) ∧ Y w'' := by
  have hmf : ∀ (fn : Fn) (first cap : Array Value) (w : World), (Instr.makeFunc fn first cap).run Tryz.prog w = .ok (.func fn first cap) w := fun _ _ _ _ => rfl
  go_enter_defers Tryz.func28, Tryz.ntmps28
  go_upto_region 2 with (fail)
  go_wp2_with (go_at_call 26; refine hc.mono ?_; rintro e w1 ⟨rfl, hb, hy⟩)
  refine leaves_cons (f := 63) (args := #[.pointer (some ⟨w.heap.size, 0, none⟩)]) (by simp) (by simp [go_sem]) ?_
  refine (try_wrong (a := w.heap.size) hb []).mono ?_
  rintro e u' w3 ⟨rfl, rfl, rfl⟩
  have y3 := hb.cell 0
  exact ⟨.bool false, by simp [results, Tryz.results28, go_sem, y3], rfl, hy⟩
end Go.Proofs.YtjjgngccgjpnaaaGreatDoor
