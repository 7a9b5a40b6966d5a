/- The deferred call of script.Take: it takes a code that was given up with. -/
import Derived.Test.YtknngjdcbldmgaaDoorScrN
import Derived.Defers
import Derived.Recover
namespace Go.Proofs.YtknngjdcbldmgaaDoor
set_option linter.unusedVariables false
set_option linter.unusedSimpArgs false
open Go.RowKit

def KP2 (a b : Nat) : Nat → Prop := fun x => x = a ∨ x = b
def CaughtR (w : World) (a b : Nat) (n : Int) (older : List PanicEntry) (e : Ending) (u' : FrameMode) (w' : World) : Prop := e = .returned (.tuple #[]) ∧ u' = .panicking ({ v := .iface 35 (.int .i64 n), recovered := true } :: older) ∧ ∃ ev, Blk w' a 29 #[.int .i64 0, .int .i64 0, .int .i64 0, .int .i64 0, .int .i64 0, .int .i64 0, .int .i64 0, .int .i64 0, .int .i64 0, .int .i64 0, .int .i64 0, .int .i64 0, .int .i64 0, .int .i64 0, .slice none 0 0, .slice none 0 0, .slice none 0 0, .slice none 0 0, .slice none 0 0, .slice none 0 0, .slice none 0 0, .slice none 0 0, .slice none 0 0] ∧ Blk w' b 33 #[ev] ∧ ErrAt w' ev n ∧ Keeps (KP2 a b) w w'
set_option maxHeartbeats 4000000 in
set_option maxRecDepth 100000 in
theorem catch_pan {w : World} {a b : Nat} {v0 : Value} (n : Int) (older : List PanicEntry) (hn0 : n ≠ 0) (ha : Blk w a 29 #[.int .i64 0, .int .i64 0, .int .i64 0, .int .i64 0, .int .i64 0, .int .i64 0, .int .i64 0, .int .i64 0, .int .i64 0, .int .i64 0, .int .i64 0, .int .i64 0, .int .i64 0, .int .i64 0, .slice none 0 0, .slice none 0 0, .slice none 0 0, .slice none 0 0, .slice none 0 0, .slice none 0 0, .slice none 0 0, .slice none 0 0, .slice none 0 0]) (hb : Blk w b 33 #[v0]) (hab : a ≠ b) :
    CallsD Tryd.prog 37 #[.pointer (some ⟨a, 0, none⟩), .pointer (some ⟨b, 0, none⟩)] (.panicking ({ v := .iface 35 (.int .i64 n), recovered := false } :: older)) w (CaughtR w a b n older) := by
  refine callsD_of_wpS Tryd.func37 rfl fun c₀ cs hu => ?_
  apply wpS_seq
  apply wpS_region
  simp [wpOpsS, go_sem, recoverD, hu, Tryd.ntmps37, Exit.thenS]
  refine wpS_of_wp ?_
  have e0 : ((#[.pointer (some ⟨a, 0, none⟩), .pointer (some ⟨b, 0, none⟩)] : Array Value) ++ (Array.replicate 12 undef).setIfInBounds 3 (.iface 35 (.int .i64 n))) = #[.pointer (some ⟨a, 0, none⟩), .pointer (some ⟨b, 0, none⟩), undef, undef, undef, .iface 35 (.int .i64 n), undef, undef, undef, undef, undef, undef, undef, undef] := rfl
  rw [e0]
  have hta : ∀ (x : Int) (W : World), (Instr.typeAssert (.iface 35 (.int .i64 x)) 20 35 true).run Tryd.prog W = .ok (.tuple #[.int .i64 x, .bool true]) W := fun x W => by kernel_rfl
  have tok1 : True := trivial
  go_wp2_with (first | (go_at_call 23; refine (new_any _ _ _ _ _).mono ?_; rintro e w1 ⟨ev, rfl, her, hb1⟩; obtain ⟨pp, rfl, hpc⟩ : ∃ pp : Nat, ev = .iface 89 (.pointer (some ⟨pp, 0, none⟩)) ∧ w1.cell? ⟨pp, 3, none⟩ = some (.iface 35 (.int .i64 n)) := her.elim (fun q => absurd q.1 hn0) (fun q => q.2); have A1 := ha.below_ hb1; have B1 := hb.below_ hb1; have B2 := (keeps_row w1 a #[.int .i64 0, .int .i64 0, .int .i64 0, .int .i64 0, .int .i64 0, .int .i64 0, .int .i64 0, .int .i64 0, .int .i64 0, .int .i64 0, .int .i64 0, .int .i64 0, .int .i64 0, .int .i64 0, .slice none 0 0, .slice none 0 0, .slice none 0 0, .slice none 0 0, .slice none 0 0, .slice none 0 0, .slice none 0 0, .slice none 0 0, .slice none 0 0]).blk B1 (fun e => hab e.symm); have y0 := B2.cell 0; have f0 := B2.frozen 0; have z0 := B2.lt) | (have _t := tok1; refine wpList_store_row (o := ⟨none, .store 29 (.tmp 0) (.tmp 11), _, _, _, _⟩) rfl 29 (.tmp 0) (.tmp 11) rfl a _ rfl rfl 29 _ A1 (by kernel_rfl) (by simp) (by simp [Value.oneCell']) ?_; clear tok1 _t))
  have k1 : Keeps (KP2 a b) w (w1.setRow a #[.int .i64 0, .int .i64 0, .int .i64 0, .int .i64 0, .int .i64 0, .int .i64 0, .int .i64 0, .int .i64 0, .int .i64 0, .int .i64 0, .int .i64 0, .int .i64 0, .int .i64 0, .int .i64 0, .slice none 0 0, .slice none 0 0, .slice none 0 0, .slice none 0 0, .slice none 0 0, .slice none 0 0, .slice none 0 0, .slice none 0 0, .slice none 0 0]) := (Keeps.of_below hb1).trans ((keeps_row w1 a #[.int .i64 0, .int .i64 0, .int .i64 0, .int .i64 0, .int .i64 0, .int .i64 0, .int .i64 0, .int .i64 0, .int .i64 0, .int .i64 0, .int .i64 0, .int .i64 0, .int .i64 0, .int .i64 0, .slice none 0 0, .slice none 0 0, .slice none 0 0, .slice none 0 0, .slice none 0 0, .slice none 0 0, .slice none 0 0, .slice none 0 0, .slice none 0 0]).mono (S' := KP2 a b) (fun x e _ => Or.inl e)) (fun x q _ => q)
  have B3 := B2.set_ 0 (.iface 89 (.pointer (some ⟨pp, 0, none⟩)))
  have A3 : Blk ((w1.setRow a #[.int .i64 0, .int .i64 0, .int .i64 0, .int .i64 0, .int .i64 0, .int .i64 0, .int .i64 0, .int .i64 0, .int .i64 0, .int .i64 0, .int .i64 0, .int .i64 0, .int .i64 0, .int .i64 0, .slice none 0 0, .slice none 0 0, .slice none 0 0, .slice none 0 0, .slice none 0 0, .slice none 0 0, .slice none 0 0, .slice none 0 0, .slice none 0 0]).setCell ⟨b, 0, none⟩ (.iface 89 (.pointer (some ⟨pp, 0, none⟩)))) a 29 #[.int .i64 0, .int .i64 0, .int .i64 0, .int .i64 0, .int .i64 0, .int .i64 0, .int .i64 0, .int .i64 0, .int .i64 0, .int .i64 0, .int .i64 0, .int .i64 0, .int .i64 0, .int .i64 0, .slice none 0 0, .slice none 0 0, .slice none 0 0, .slice none 0 0, .slice none 0 0, .slice none 0 0, .slice none 0 0, .slice none 0 0, .slice none 0 0] := (A1.row _).far (p := ⟨b, 0, none⟩) hab _
  have hpa : pp ≠ a := fun e => by
    subst e
    have := A1.cell 3
    rw [hpc] at this
    simp at this
  have hpb : pp ≠ b := fun e => by
    subst e
    have := B1.cell 3
    rw [hpc] at this
    simp at this
  have E2 := (keeps_row w1 a #[.int .i64 0, .int .i64 0, .int .i64 0, .int .i64 0, .int .i64 0, .int .i64 0, .int .i64 0, .int .i64 0, .int .i64 0, .int .i64 0, .int .i64 0, .int .i64 0, .int .i64 0, .int .i64 0, .slice none 0 0, .slice none 0 0, .slice none 0 0, .slice none 0 0, .slice none 0 0, .slice none 0 0, .slice none 0 0, .slice none 0 0, .slice none 0 0]).cell hpc hpa
  have K3 : Keeps (KP2 a b) w ((w1.setRow a #[.int .i64 0, .int .i64 0, .int .i64 0, .int .i64 0, .int .i64 0, .int .i64 0, .int .i64 0, .int .i64 0, .int .i64 0, .int .i64 0, .int .i64 0, .int .i64 0, .int .i64 0, .int .i64 0, .slice none 0 0, .slice none 0 0, .slice none 0 0, .slice none 0 0, .slice none 0 0, .slice none 0 0, .slice none 0 0, .slice none 0 0, .slice none 0 0]).setCell ⟨b, 0, none⟩ (.iface 89 (.pointer (some ⟨pp, 0, none⟩)))) := k1.setCell (p := ⟨b, 0, none⟩) (fun _ => Or.inr rfl) _
  have E3 := ((Keeps.refl (fun x => x = b) (w1.setRow a #[.int .i64 0, .int .i64 0, .int .i64 0, .int .i64 0, .int .i64 0, .int .i64 0, .int .i64 0, .int .i64 0, .int .i64 0, .int .i64 0, .int .i64 0, .int .i64 0, .int .i64 0, .int .i64 0, .slice none 0 0, .slice none 0 0, .slice none 0 0, .slice none 0 0, .slice none 0 0, .slice none 0 0, .slice none 0 0, .slice none 0 0, .slice none 0 0])).setCell (p := ⟨b, 0, none⟩) (fun _ => rfl) (.iface 89 (.pointer (some ⟨pp, 0, none⟩)))).cell E2 hpb
  refine ⟨rfl, .panicking ({ v := .iface 35 (.int .i64 n), recovered := true } :: older), rfl, .tuple #[], by simp [results, Tryd.results37, go_sem], rfl, rfl, _, A3, B3, .inr ⟨hn0, pp, rfl, E3⟩, K3⟩
set_option maxHeartbeats 4000000 in
set_option maxRecDepth 100000 in
theorem catch_idle {w : World} {a b : Nat} :
    CallsD Tryd.prog 37 #[.pointer (some ⟨a, 0, none⟩), .pointer (some ⟨b, 0, none⟩)] .returning w fun e u' w' => e = .returned (.tuple #[]) ∧ u' = .returning ∧ w = w' := by
  refine callsD_of_wpS Tryd.func37 rfl fun c₀ cs hu => ?_
  apply wpS_seq
  apply wpS_region
  simp [wpOpsS, go_sem, recoverD, hu, Tryd.ntmps37, Exit.thenS]
  refine wpS_of_wp ?_
  have e0 : ((#[.pointer (some ⟨a, 0, none⟩), .pointer (some ⟨b, 0, none⟩)] : Array Value) ++ (Array.replicate 12 undef).setIfInBounds 3 (.nilIface)) = #[.pointer (some ⟨a, 0, none⟩), .pointer (some ⟨b, 0, none⟩), undef, undef, undef, .nilIface, undef, undef, undef, undef, undef, undef, undef, undef] := rfl
  rw [e0]
  go_wp2_with fail
  cases c₀
  simp_all [bodyPostS, results, Tryd.results37]
end Go.Proofs.YtknngjdcbldmgaaDoor
