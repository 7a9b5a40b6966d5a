/- The closures of Take; the error of a line. -/
import Derived.Test.YtjjgngccgjpnaaaGreatDoorTxtM
namespace Go.Proofs.YtjjgngccgjpnaaaGreatDoor
set_option linter.unusedVariables false
set_option linter.unusedSimpArgs false
open Go.RowKit
theorem take1_yes {w : World} {p5 p10 tb rb : Nat} {Y : World → Prop} (h5 : w.cell? ⟨p5, 0, none⟩ = some (.pointer (some ⟨tb, 0, none⟩))) (h10 : w.cell? ⟨p10, 0, none⟩ = some (.pointer (some ⟨rb, 0, none⟩))) (hc : Calls Tryz.prog 25 #[.pointer (some ⟨tb, 0, none⟩), .pointer (some ⟨rb, 0, none⟩)] w fun e w' => e = .returned (.tuple #[]) ∧ Y w') :
    Calls Tryz.prog 24 #[.pointer (some ⟨p5, 0, none⟩), .pointer (some ⟨p10, 0, none⟩)] w fun e w' => e = .returned (.tuple #[]) ∧ Y w' := by
  have z5 := block_lt_of_cell h5
  have z10 := block_lt_of_cell h10
  go_enter Tryz.func24, Tryz.ntmps24
  go_wp2_with (go_at_call 25; refine hc.mono ?_; rintro e w1 ⟨rfl, hy⟩)
  exact bodyPost_end (results_none rfl _ _ _) rfl ⟨rfl, hy⟩
theorem take1_no {w : World} {p5 p10 tb rb : Nat} {Y : World → Prop} (h5 : w.cell? ⟨p5, 0, none⟩ = some (.pointer (some ⟨tb, 0, none⟩))) (h10 : w.cell? ⟨p10, 0, none⟩ = some (.pointer (some ⟨rb, 0, none⟩))) (hc : Calls Tryz.prog 25 #[.pointer (some ⟨tb, 0, none⟩), .pointer (some ⟨rb, 0, none⟩)] w fun e w' => PanW e ∧ Y w') :
    Calls Tryz.prog 24 #[.pointer (some ⟨p5, 0, none⟩), .pointer (some ⟨p10, 0, none⟩)] w fun e w' => PanW e ∧ Y w' := by
  have z5 := block_lt_of_cell h5
  have z10 := block_lt_of_cell h10
  go_enter Tryz.func24, Tryz.ntmps24
  go_wp2_with (go_at_call 25; refine hc.mono ?_; rintro e w1 ⟨rfl, hy⟩)
  exact ⟨rfl, rfl, hy⟩
theorem take2_yes {w : World} {p5 p10 tb rb : Nat} {Y : World → Prop} (h5 : w.cell? ⟨p5, 0, none⟩ = some (.pointer (some ⟨tb, 0, none⟩))) (h10 : w.cell? ⟨p10, 0, none⟩ = some (.pointer (some ⟨rb, 0, none⟩))) (hc : Calls Tryz.prog 27 #[.pointer (some ⟨tb, 0, none⟩), .pointer (some ⟨rb, 0, none⟩)] w fun e w' => e = .returned (.tuple #[]) ∧ Y w') :
    Calls Tryz.prog 26 #[.pointer (some ⟨p5, 0, none⟩), .pointer (some ⟨p10, 0, none⟩)] w fun e w' => e = .returned (.tuple #[]) ∧ Y w' := by
  have z5 := block_lt_of_cell h5
  have z10 := block_lt_of_cell h10
  go_enter Tryz.func26, Tryz.ntmps26
  go_wp2_with (go_at_call 27; refine hc.mono ?_; rintro e w1 ⟨rfl, hy⟩)
  exact bodyPost_end (results_none rfl _ _ _) rfl ⟨rfl, hy⟩
theorem take2_no {w : World} {p5 p10 tb rb : Nat} {Y : World → Prop} (h5 : w.cell? ⟨p5, 0, none⟩ = some (.pointer (some ⟨tb, 0, none⟩))) (h10 : w.cell? ⟨p10, 0, none⟩ = some (.pointer (some ⟨rb, 0, none⟩))) (hc : Calls Tryz.prog 27 #[.pointer (some ⟨tb, 0, none⟩), .pointer (some ⟨rb, 0, none⟩)] w fun e w' => PanW e ∧ Y w') :
    Calls Tryz.prog 26 #[.pointer (some ⟨p5, 0, none⟩), .pointer (some ⟨p10, 0, none⟩)] w fun e w' => PanW e ∧ Y w' := by
  have z5 := block_lt_of_cell h5
  have z10 := block_lt_of_cell h10
  go_enter Tryz.func26, Tryz.ntmps26
  go_wp2_with (go_at_call 27; refine hc.mono ?_; rintro e w1 ⟨rfl, hy⟩)
  exact ⟨rfl, rfl, hy⟩

theorem form_any {w : World} : Calls Tryz.prog 29 #[] w (NewR w 3) := by
  go_enter Tryz.func29, Tryz.ntmps29
  go_wp2_with (go_at_call 64; refine (new_any _ _ _ _ _).mono ?_; rintro e w1 ⟨ev, rfl, her, hb1⟩)
  go_ret
  exact ⟨ev, rfl, her, hb1⟩
end Go.Proofs.YtjjgngccgjpnaaaGreatDoor
