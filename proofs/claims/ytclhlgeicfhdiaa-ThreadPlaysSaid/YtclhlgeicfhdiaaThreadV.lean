/- Threads: the law ThreadPlays, whole. -/
import Derived.Test.YtclhlgeicfhdiaaThreadU
namespace Go.Proofs.Ytclhlgeicfhdiaa
set_option linter.unusedVariables false
set_option linter.unusedSimpArgs false
open Go.RowKit

set_option maxHeartbeats 4000000 in
set_option maxRecDepth 100000 in
theorem plays_g1 {w : World} {A A0 : Option Addr} {n c n0 c0 : Nat} {ops : List TOp} {l0 : List Int} (k0 m0 nn : Int) (hl : Sl toc w A n c ops) (hgf : gB n ops = true) : Calls Try.prog 4 #[.slice A n c, .agg #[.int .i64 k0, .int .i64 m0, .slice A0 n0 c0], .int .i64 nn] w fun e w' => e = .returned (.bool true) ∧ Below w.heap.size w w' := by
  go_enter Try.func4, Try.ntmps4
  go_upto_region 1 with (fail)
  obtain ⟨W0, hW0, hz, hl0, kb⟩ : ∃ W0, w.alloc (.cells #[.int .i64 k0, .int .i64 m0, .slice A0 n0 c0] 30) = W0 ∧ Blk W0 w.heap.size 30 #[.int .i64 k0, .int .i64 m0, .slice A0 n0 c0] ∧ Sl toc W0 A n c ops ∧ Below w.heap.size w W0 := ⟨_, rfl, Blk.new _ _ _, hl.alloc _, bnew (brefl w) _⟩
  rw [hW0]
  clear hW0
  have hg1 := great_any hl0
  rw [hgf] at hg1
  go_wp2_with fail
  refine hg1.mono ?_
  rintro e wa ⟨rfl, rfl⟩
  go_wp2_with fail
  refine (lives20 _).mono ?_
  rintro e wb ⟨rfl, hbb⟩
  go_wp2_with fail
  go_ret
  exact ⟨rfl, bnext kb hbb⟩
set_option maxHeartbeats 4000000 in
set_option maxRecDepth 100000 in
theorem plays_g2 {w : World} {A A0 : Option Addr} {n c n0 c0 : Nat} {ops : List TOp} {l0 : List Int} (k0 m0 nn : Int) (hl : Sl toc w A n c ops) (hgf : gB n ops = false) (hgo : gB 1 [(⟨k0, m0, A0, n0, c0, l0⟩ : TOp)] = true) : Calls Try.prog 4 #[.slice A n c, .agg #[.int .i64 k0, .int .i64 m0, .slice A0 n0 c0], .int .i64 nn] w fun e w' => e = .returned (.bool true) ∧ Below w.heap.size w w' := by
  go_enter Try.func4, Try.ntmps4
  go_upto_region 1 with (fail)
  obtain ⟨W0, hW0, hz, hl0, kb⟩ : ∃ W0, w.alloc (.cells #[.int .i64 k0, .int .i64 m0, .slice A0 n0 c0] 30) = W0 ∧ Blk W0 w.heap.size 30 #[.int .i64 k0, .int .i64 m0, .slice A0 n0 c0] ∧ Sl toc W0 A n c ops ∧ Below w.heap.size w W0 := ⟨_, rfl, Blk.new _ _ _, hl.alloc _, bnew (brefl w) _⟩
  rw [hW0]
  clear hW0
  have hg1 := great_any hl0
  rw [hgf] at hg1
  have hs0 : Sl toc (W0.alloc (.cells #[.int .i64 k0, .int .i64 m0, .slice A0 n0 c0] 30)) (some ⟨W0.heap.size, 0, none⟩) 1 1 [(⟨k0, m0, A0, n0, c0, l0⟩ : TOp)] := ⟨rfl, Nat.le_refl _, (Blk.new W0 30 #[.int .i64 k0, .int .i64 m0, .slice A0 n0 c0]).rd, fun q => by cases q⟩
  have hg2 := great_any hs0
  rw [hgo] at hg2
  have z0 : W0.cell? ⟨w.heap.size, 0, none⟩ = some (.int .i64 k0) := hz.cell 0
  have z1 : W0.cell? ⟨w.heap.size, 1, none⟩ = some (.int .i64 m0) := hz.cell 1
  have z2 : W0.cell? ⟨w.heap.size, 2, none⟩ = some (.slice A0 n0 c0) := hz.cell 2
  clear hs0 hl0
  go_wp2_with fail
  refine hg1.mono ?_
  rintro e wa ⟨rfl, rfl⟩
  go_wp2_with fail
  refine hg2.mono ?_
  rintro e wb ⟨rfl, rfl⟩
  go_wp2_with fail
  refine (lives20 _).mono ?_
  rintro e wc ⟨rfl, hbb⟩
  go_wp2_with fail
  go_ret
  exact ⟨rfl, bnext (bnew kb _) hbb⟩
theorem plays_any {w : World} {A A0 : Option Addr} {n c n0 c0 : Nat} {ops : List TOp} {l0 : List Int} (k0 m0 nn : Int) (hl : Sl toc w A n c ops) (hop : ∀ o, o ∈ ops → Sl us w o.A o.rn o.rc o.l) (ho : Sl us w A0 n0 c0 l0) (hnn : -9223372036854775808 ≤ nn ∧ nn ≤ 9223372036854775807) : Calls Try.prog 4 #[.slice A n c, .agg #[.int .i64 k0, .int .i64 m0, .slice A0 n0 c0], .int .i64 nn] w fun e w' => e = .returned (.bool true) ∧ Below w.heap.size w w' := by
  cases hg : gB n ops with
  | true => exact plays_g1 (l0 := l0) k0 m0 nn hl hg
  | false =>
    cases hg2 : gB 1 [(⟨k0, m0, A0, n0, c0, l0⟩ : TOp)] with
    | true => exact plays_g2 k0 m0 nn hl hg hg2
    | false => exact plays_main k0 m0 nn hl hop ho hg hg2 hnn
end Go.Proofs.Ytclhlgeicfhdiaa
