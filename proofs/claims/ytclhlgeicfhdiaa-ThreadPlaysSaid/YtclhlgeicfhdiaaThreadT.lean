/- Threads: the law ThreadPlays: what its walk carries. -/
import Derived.Test.YtclhlgeicfhdiaaThreadN
import Derived.Test.YtclhlgeicfhdiaaThreadP
import Derived.Test.YtclhlgeicfhdiaaThreadR
import Derived.Test.YtclhlgeicfhdiaaThreadS
namespace Go.Proofs.Ytclhlgeicfhdiaa
set_option linter.unusedVariables false
set_option linter.unusedSimpArgs false
open Go.RowKit

theorem act_store_row {P : Program} {ops : Array Oper} {w : World} {o : Oper} {a : Act} {K : Act → World → Prop} {Q : Exit → Act → World → Prop} {L : Prop} (hgd : o.guard = none) (ty : TypeId) (x y : Operand) (ho : o.op = .store ty x y)
    (g : Nat) (cells : Array Value) (hx : a.eval x = .pointer (some ⟨g, 0, none⟩)) (hy : a.eval y = .agg cells)
    (t : TypeId) (old : Array Value) (hg : Blk w g t old) (hi : (P.info? ty).map (·.size) = some cells.size)
    (hold : old.size = cells.size) (h1 : cells.all (·.oneCell') = true)
    (h : K (a.put o.dst undef) (w.setRow g cells)) : if Region.wanted o (yielded ops a.tmps) = true then Oper.wp P o a w K Q else L := by
  rw [if_pos (by simp [Region.wanted, hgd])]
  exact wp_store_row ty x y ho g cells hx hy t old hg hi hold h1 h
theorem keeps_row (w : World) (g : Nat) (cs : Array Value) : Keeps (fun b => b = g) w (w.setRow g cs) := (Keeps.of_grown (grown_setRow w g cs)).mono fun b e _ => (by injection e with e; exact e.symm)
theorem Blk.row {w : World} {g : Nat} {t : TypeId} {cs : Array Value} (h : Blk w g t cs) (cs' : Array Value) : Blk (w.setRow g cs') g t cs' := setRow_heap w g _ _ t _ h
theorem tvc_size {told : List Int} (h : told.length = 8) (F H : Value) : (tvc told F H).size = 10 := by simp [tvc, h]
theorem tvc_one (told : List Int) (A B : Option Addr) (n c m d : Nat) : (tvc told (.slice A n c) (.slice B m d)).all (·.oneCell') = true := by
  simp [tvc, uc, Value.oneCell']
theorem info_T : (Try.prog.info? 49).map (·.size) = some 10 := by kernel_rfl
/-- The document's thread lies in block q. -/
structure XBox (w : World) (q : Nat) (t : Th) (FA : Option Addr) (fc : Nat) (HB : Option Addr) (hd : Nat) : Prop where
  b : Blk w q 49 (tvc t.told (.slice FA t.frames.length fc) (.slice HB t.hs.length hd))
  f : Sl frc w FA t.frames.length fc t.frames
  h : Sl us w HB t.hs.length hd t.hs
  lf : ∀ ad, FA = some ad → ad.block < w.heap.size
  lh : ∀ ad, HB = some ad → ad.block < w.heap.size
/-- It is apart from the blocks of S. -/
structure Apt (S : Nat → Prop) (q : Nat) (FA HB : Option Addr) : Prop where
  nq : ¬ S q
  f : ∀ ad, FA = some ad → ¬ S ad.block ∧ ad.block ≠ q
  h : ∀ ad, HB = some ad → ¬ S ad.block ∧ ad.block ≠ q
section
variable {w w' : World} {q : Nat} {t t' : Th} {FA HB FA' HB' : Option Addr} {fc hd fc' hd' : Nat} {S S' : Nat → Prop}
theorem XBox.keeps (h : XBox w q t FA fc HB hd) (hk : Keeps S w w') (ha : Apt S q FA HB) : XBox w' q t FA fc HB hd :=
  ⟨hk.blk h.b ha.nq, hk.sl h.f fun ad e => (ha.f ad e).1, hk.sl h.h fun ad e => (ha.h ad e).1, fun ad e => Nat.lt_of_lt_of_le (h.lf ad e) hk.size, fun ad e => Nat.lt_of_lt_of_le (h.lh ad e) hk.size⟩
theorem XBox.below (h : XBox w q t FA fc HB hd) (hb : Below w.heap.size w w') : XBox w' q t FA fc HB hd :=
  ⟨h.b.below_ hb, h.f.below hb, h.h.below hb, fun ad e => Nat.lt_of_lt_of_le (h.lf ad e) hb.size, fun ad e => Nat.lt_of_lt_of_le (h.lh ad e) hb.size⟩
theorem Apt.grown (ha : Apt S q FA HB) (h : XBox w q t FA fc HB hd) (hS : ∀ b, S' b → S b ∨ w.heap.size ≤ b) : Apt S' q FA HB :=
  ⟨fun e => (hS _ e).elim ha.nq fun g => by have := h.b.lt; omega, fun ad e => ⟨fun s => (hS _ s).elim (ha.f ad e).1 fun g => by have := h.lf ad e; omega, (ha.f ad e).2⟩,
    fun ad e => ⟨fun s => (hS _ s).elim (ha.h ad e).1 fun g => by have := h.lh ad e; omega, (ha.h ad e).2⟩⟩
/-- The box is stored over: the world behind it. -/
theorem XBox.store (hq : Blk w q 49 (tvc t'.told (.slice FA t'.frames.length fc) (.slice HB t'.hs.length hd))) (hf : Sl frc w FA' t.frames.length fc' t.frames) (hh : Sl us w HB' t.hs.length hd' t.hs) (ha : Apt S q FA' HB')
    (lf : ∀ ad, FA' = some ad → ad.block < w.heap.size) (lh : ∀ ad, HB' = some ad → ad.block < w.heap.size) :
    XBox (w.setRow q (tvc t.told (.slice FA' t.frames.length fc') (.slice HB' t.hs.length hd'))) q t FA' fc' HB' hd' :=
  have hk := keeps_row w q (tvc t.told (.slice FA' t.frames.length fc') (.slice HB' t.hs.length hd'))
  ⟨hq.row _, hk.sl hf fun ad e => (ha.f ad e).2, hk.sl hh fun ad e => (ha.h ad e).2, fun ad e => Nat.lt_of_lt_of_le (lf ad e) hk.size, fun ad e => Nat.lt_of_lt_of_le (lh ad e) hk.size⟩
theorem Apt.new (ha : Apt S q FA HB) (hS : ∀ b, S b → b < w.heap.size) (hq : q < w.heap.size) (nF : New w w' FA FA') (nH : New w w' HB HB') : Apt S q FA' HB' := by
  refine ⟨ha.nq, fun ad e => ?_, fun ad e => ?_⟩
  · rcases nF with rfl | h
    · exact ha.f ad e
    · have h1 := (h ad e).1
      exact ⟨fun s => by have := hS _ s; omega, by omega⟩
  · rcases nH with rfl | h
    · exact ha.h ad e
    · have h1 := (h ad e).1
      exact ⟨fun s => by have := hS _ s; omega, by omega⟩
theorem New.lt (n : New w w' FA FA') (hs : w.heap.size ≤ w'.heap.size) (l : ∀ ad, FA = some ad → ad.block < w.heap.size) : ∀ ad, FA' = some ad → ad.block < w'.heap.size := fun ad e => by
  rcases n with rfl | h
  · have := l ad e; omega
  · exact (h ad e).2
end
theorem wrap_ne {n : Int} (h : -9223372036854775808 ≤ n ∧ n ≤ 9223372036854775807) : (IntKind.u64.wrap n != 0) = (n != 0) := by
  have e : IntKind.u64.wrap n = n % 18446744073709551616 := by
    unfold IntKind.wrap
    rfl
  rw [e]
  by_cases h0 : n = 0
  · subst h0; rfl
  · have h1 : n % 18446744073709551616 ≠ 0 := by omega
    rw [show (n != 0) = true by simpa using h0, show (n % 18446744073709551616 != 0) = true by simpa using h1]
theorem same_x {w : World} {base p q : Nat} {t : Th} {L : TL} {FA HB : Option Addr} {fc hd : Nat} (h : TBox w base p t L) (hx : XBox w q t FA fc HB hd) (hl : t.frames.length ≤ 1000) (hl2 : t.hs.length ≤ 1000) {n : Int} (hn : -9223372036854775808 ≤ n ∧ n ≤ 9223372036854775807) :
    Calls Try.prog 17 #[.pointer (some ⟨p, 0, none⟩), .agg (tvc t.told (.slice FA t.frames.length fc) (.slice HB t.hs.length hd)), .int .i64 n] w fun e w' => e = .returned (.bool true) ∧ Below w.heap.size w w' :=
  same_w h hx.f hx.h hl hl2 n (n != 0) rfl (wrap_ne hn)
end Go.Proofs.Ytclhlgeicfhdiaa
