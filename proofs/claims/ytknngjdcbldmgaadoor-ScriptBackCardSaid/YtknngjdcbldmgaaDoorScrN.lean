/- The chapter's example. -/
import Derived.Test.YtknngjdcbldmgaaDoorScrM
import Derived.Laws.BytesArg
namespace Go.Proofs.YtknngjdcbldmgaaDoor
set_option linter.unusedVariables false
set_option linter.unusedSimpArgs false
open Go.RowKit

def cE : Cf := ⟨1, 1, 0, 0, 0, 0, 0, 0, 0, 0, 2, 1, 1, 0⟩
def esE : List En := [⟨0, 0⟩]
def psE : List (List CV) := (List.range 8).map fun _ => []
theorem Keeps.of_grown {w w' : World} {row : Option Nat} (hg : w.grownBy w' row) : Keeps (fun b => row = some b) w w' := (Keeps.refl _ w).grown hg fun k hk _ => hk
theorem keeps_row (w : World) (g : Nat) (cs : Array Value) : Keeps (fun b => b = g) w (w.setRow g cs) := (Keeps.of_grown (grown_setRow w g cs)).mono fun b e _ => (by injection e with e; exact e.symm)
theorem Blk.row {w : World} {g : Nat} {t : TypeId} {cs : Array Value} (h : Blk w g t cs) (cs' : Array Value) : Blk (w.setRow g cs') g t cs' := setRow_heap w g _ _ t _ h
theorem pE (w : World) : PIn (fun _ => False) w nil8 psE := by
  refine ⟨rfl, rfl, fun j l hl => ?_⟩
  have hj : j < 8 := by have := (List.getElem?_eq_some_iff.1 hl).1; simpa [psE] using this
  obtain rfl : l = [] := by
    have := List.mem_of_getElem? hl
    obtain ⟨_, _, rfl⟩ := List.mem_map.1 this
    rfl
  refine ⟨none, 0, 0, ?_, ⟨rfl, Nat.le_refl _, Rd.nil _ _, fun _ => ⟨rfl, rfl⟩⟩, fun ad e _ => by cases e⟩
  rcases (by omega : j = 0 ∨ j = 1 ∨ j = 2 ∨ j = 3 ∨ j = 4 ∨ j = 5 ∨ j = 6 ∨ j = 7) with rfl | rfl | rfl | rfl | rfl | rfl | rfl | rfl <;> rfl
/-- The string of an own row of bytes. -/
theorem str_own {w : World} {B n d : Nat} {A : Option Addr} {bs : List Int} (h : w.ownsRow B 5 1 (.slice A n d) n (bs.map b8)) : (convert 39 9 (.slice A n d)).run Tryd.prog w = .ok (.string (strOfNums bs)) w := by
  have hn : bs.length = n := by have := h.1; simpa using this
  rcases h.2 with ⟨hv, h0⟩ | ⟨g, cap, cur, hv, _⟩
  · cases hv
    obtain rfl : bs = [] := List.length_eq_zero_iff.1 (by omega)
    exact run_convert_bytes_nil w _ _ Tryd.underlying39 Tryd.underlying5 _ _ _ Tryd.underlying9
  · cases hv
    refine run_convert_bytes_arg w _ _ Tryd.underlying39 Tryd.underlying5 g 0 n _ bs hn (fun i hi => ?_) _ Tryd.underlying9
    have hc := Rd.of_own h
    have := hc.some_ i (b8 (bs.getD i 0)) (by rw [List.getElem?_map, List.getD_eq_getElem?_getD, List.getElem?_eq_getElem (by omega)]; rfl)
    rw [ad_flat] at this
    rw [Nat.zero_add]
    exact this
theorem lE : ((strOfNums [1, 1, 0, 0, 0, 0, 0, 0, 0, 0, 2, 1, 1, 0, 0, 0, 0, 0]).toList == [1, 1, 0, 0, 0, 0, 0, 0, 0, 0, 2, 1, 1, 0, 0, 0, 0, 0]) = true := by
  rw [ByteArray.toList_eq]
  decide
theorem rE : rightN cE psE esE 0 = 0 := by decide
theorem bE : scriptW cE psE esE = [1, 1, 0, 0, 0, 0, 0, 0, 0, 0, 2, 1, 1, 0, 0, 0, 0, 0] := by decide
set_option maxHeartbeats 4000000 in
set_option maxRecDepth 100000 in
theorem lives18 (w : World) : Calls Tryd.prog 8 #[] w fun e w' => e = .returned (.bool true) ∧ Below w.heap.size w w' := by
  go_enter Tryd.func8, Tryd.ntmps8
  have tok2 : True := trivial
  go_upto_region 2 with (have _t := tok2; refine wpList_store_row (o := ⟨none, .store 29 (.tmp 1) (.tmp 7), _, _, _, _⟩) rfl 29 (.tmp 1) (.tmp 7) rfl (w.heap.size + 1) _ rfl rfl 29 _ (by have := Blk.new (w.alloc (.cells #[.int .i64 0, .int .i64 0] 51)) 29 #[.int .i64 0, .int .i64 0, .int .i64 0, .int .i64 0, .int .i64 0, .int .i64 0, .int .i64 0, .int .i64 0, .int .i64 0, .int .i64 0, .int .i64 0, .int .i64 0, .int .i64 0, .int .i64 0, .slice none 0 0, .slice none 0 0, .slice none 0 0, .slice none 0 0, .slice none 0 0, .slice none 0 0, .slice none 0 0, .slice none 0 0, .slice none 0 0]; rwa [World.size_alloc] at this) (by kernel_rfl) (by simp) (by simp [Value.oneCell']) ?_; clear tok2 _t)
  obtain ⟨W1, hW1, B1, S1, kb⟩ : ∃ W1, ((w.alloc (.cells #[.int .i64 0, .int .i64 0] 51)).alloc (.cells #[.int .i64 0, .int .i64 0, .int .i64 0, .int .i64 0, .int .i64 0, .int .i64 0, .int .i64 0, .int .i64 0, .int .i64 0, .int .i64 0, .int .i64 0, .int .i64 0, .int .i64 0, .int .i64 0, .slice none 0 0, .slice none 0 0, .slice none 0 0, .slice none 0 0, .slice none 0 0, .slice none 0 0, .slice none 0 0, .slice none 0 0, .slice none 0 0] 29)).setRow (w.heap.size + 1) #[.int .i64 1, .int .i64 1, .int .i64 0, .int .i64 0, .int .i64 0, .int .i64 0, .int .i64 0, .int .i64 0, .int .i64 0, .int .i64 0, .int .i64 2, .int .i64 1, .int .i64 1, .int .i64 0, .slice none 0 0, .slice none 0 0, .slice none 0 0, .slice none 0 0, .slice none 0 0, .slice none 0 0, .slice none 0 0, .slice none 0 0, .slice (some ⟨w.heap.size, 0, none⟩) 1 1] = W1 ∧ Blk W1 (w.heap.size + 1) 29 (scc cE nil8 (.slice (some ⟨w.heap.size, 0, none⟩) 1 1)).toArray ∧ Sl enc_ W1 (some ⟨w.heap.size, 0, none⟩) 1 1 esE ∧ Below w.heap.size w W1 := by
    have kr := keeps_row ((w.alloc (.cells #[.int .i64 0, .int .i64 0] 51)).alloc (.cells #[.int .i64 0, .int .i64 0, .int .i64 0, .int .i64 0, .int .i64 0, .int .i64 0, .int .i64 0, .int .i64 0, .int .i64 0, .int .i64 0, .int .i64 0, .int .i64 0, .int .i64 0, .int .i64 0, .slice none 0 0, .slice none 0 0, .slice none 0 0, .slice none 0 0, .slice none 0 0, .slice none 0 0, .slice none 0 0, .slice none 0 0, .slice none 0 0] 29)) (w.heap.size + 1) #[.int .i64 1, .int .i64 1, .int .i64 0, .int .i64 0, .int .i64 0, .int .i64 0, .int .i64 0, .int .i64 0, .int .i64 0, .int .i64 0, .int .i64 2, .int .i64 1, .int .i64 1, .int .i64 0, .slice none 0 0, .slice none 0 0, .slice none 0 0, .slice none 0 0, .slice none 0 0, .slice none 0 0, .slice none 0 0, .slice none 0 0, .slice (some ⟨w.heap.size, 0, none⟩) 1 1]
    have h1 := Blk.new (w.alloc (.cells #[.int .i64 0, .int .i64 0] 51)) 29 #[.int .i64 0, .int .i64 0, .int .i64 0, .int .i64 0, .int .i64 0, .int .i64 0, .int .i64 0, .int .i64 0, .int .i64 0, .int .i64 0, .int .i64 0, .int .i64 0, .int .i64 0, .int .i64 0, .slice none 0 0, .slice none 0 0, .slice none 0 0, .slice none 0 0, .slice none 0 0, .slice none 0 0, .slice none 0 0, .slice none 0 0, .slice none 0 0]
    rw [World.size_alloc] at h1
    refine ⟨_, rfl, h1.row _, ?_, kr.below (bnew (bnew (brefl w) _) _) (by simp; omega) (fun x hx _ => by omega)⟩
    exact ⟨rfl, Nat.le_refl _, (kr.blk ((Blk.new w 51 #[.int .i64 0, .int .i64 0]).alloc _) (by omega)).rd, fun q => by cases q⟩
  simp only [Act.put]
  rw [hW1]
  clear hW1
  have hi := info_scc (c := cE) (us := nil8) (ev := .slice (some ⟨w.heap.size, 0, none⟩) 1 1) rfl
  have hput := sput_yes (w := W1) (c := cE) (pE W1) S1 (by decide) (fun l hl => by obtain ⟨_, _, rfl⟩ := List.mem_map.1 hl; simp) (fun l hl => by obtain ⟨_, _, rfl⟩ := List.mem_map.1 hl; simp) rE
  have HPT := Lib.hid hput
  clear hput
  have tok1 : True := trivial
  have tok2 : True := trivial
  go_wp2_with (first | (have _t := tok1; refine wpList_load_row (o := ⟨some 9, _, _, _, _, _⟩) rfl 29 (.tmp 1) rfl (w.heap.size + 1) rfl 29 _ _ _ B1 Tryd.underlying29 rfl hi ?_; clear tok1 _t) | (have _t := tok2; go_at_call 14; refine HPT.out.mono ?_; rintro e wa ⟨A, n, d, rfl, hb1, own⟩; have hcv := str_own own; rw [bE] at hcv; clear tok2 _t))
  go_ret
  exact ⟨by show Ending.returned (.bool ((strOfNums [1, 1, 0, 0, 0, 0, 0, 0, 0, 0, 2, 1, 1, 0, 0, 0, 0, 0]).toList == [1, 1, 0, 0, 0, 0, 0, 0, 0, 0, 2, 1, 1, 0, 0, 0, 0, 0])) = _; rw [lE], bnext kb hb1⟩
end Go.Proofs.YtknngjdcbldmgaaDoor
