/- maps.Clone of a warden's map. -/
import Derived.Test.YtlnnnaefmgikpaaWarQ
import Derived.Shelf.SlMaps.Clone
namespace Go.Proofs.Ytlnnnaefmgikpaa
set_option linter.unusedVariables false
set_option linter.unusedSimpArgs false
open Go.RowKit

set_option maxHeartbeats 4000000 in
set_option maxRecDepth 100000 in
theorem mclone_run {w : World} {b : Nat} {es : Array MapEntry} {clock : Nat} (hb : w.heap[b]? = some (.map es clock)) : Calls Try.prog 30 #[.map (some b)] w fun e w' => e = .returned (.map (some w.heap.size)) ∧ w' = w.alloc (.map es clock) := by
  have t48 := Try.underlying48
  have hq := fun w => run_eql_map_nil_sl (P := Try.prog) w _ _ _ (some b) t48
  go_enter Try.func30, Try.ntmps30
  go_wp2_with fail
  rw [run_callFunc_extern (P := Try.prog) (f := 37) (fn := Try.f37) (by kernel_rfl) (by kernel_rfl) (by kernel_rfl) (by kernel_rfl) (e := Extern.MapsClone.clone) (by kernel_rfl), run_maps_clone_sl w _ hb]
  simp only [Result.andThen]
  rw [Oper.upon_value]
  go_wp2
  rw [run_typeAssert_map_sl _ _ _ _ _ _ t48]
  simp only [Result.andThen]
  rw [Oper.upon_value]
  go_wp2
  go_ret
  exact ⟨rfl, rfl⟩
/-- Behind it both maps read alike, and lie apart. -/
theorem mclone_any {w : World} {b N : Nat} {f : Int → Int → Int} {d : Int → Int → Bool} (h : MapF w b N f d) : Calls Try.prog 30 #[.map (some b)] w fun e w' => e = .returned (.map (some w.heap.size)) ∧ MapF w' w.heap.size N f d ∧ w.heap.size < w'.heap.size ∧ Below w.heap.size w w' := by
  obtain ⟨D, ⟨es, clock, h1, h2⟩, h3⟩ := h
  refine (mclone_run h1).mono ?_
  rintro e w' ⟨rfl, rfl⟩
  exact ⟨rfl, ⟨D, ⟨es, clock, heap_alloc_new w _, h2⟩, h3⟩, by rw [World.size_alloc]; omega, bnew (brefl w) _⟩
end Go.Proofs.Ytlnnnaefmgikpaa
