/- Threads: the walks of Note, Call, Back. -/
import Derived.Test.YtclhlgeicfhdiaaThreadB
namespace Go.Proofs.Ytclhlgeicfhdiaa
set_option linter.unusedVariables false
set_option linter.unusedSimpArgs false
open Go.RowKit

theorem elem_u : ∃ i, Elem Try.prog 23 33 i (.int .u64 0) 1 8 := Elem.of Try.underlying23 (by kernel_rfl) rfl (by decide)
theorem elem_pf : ∃ i, Elem Try.prog 43 35 i (.pointer none) 1 8 := Elem.of Try.underlying43 (by kernel_rfl) rfl (by decide)
set_option maxHeartbeats 4000000 in
set_option maxRecDepth 100000 in
theorem note_any {w : World} {base p : Nat} {t : Th} {L : TL} (h : TBox w base p t L) (x : Int) (hbase : base ≤ w.heap.size) (hl : t.hs.length ≤ 100000) :
    Calls Try.prog 12 #[.pointer (some ⟨p, 0, none⟩), .int .u64 x] w fun e w' => e = .returned (.tuple #[]) ∧ Goes base p w L (t.note x) w' := by
  obtain ⟨i0, E⟩ := elem_u
  have k := h.c12
  have hgo := fun {w8 : World} (o : Obj) {A : Option Addr} {d : Nat} => note_goes (w8 := w8) h o x (A := A) (d := d) hbase
  have hown := h.hs
  have hbk := fun (o : Obj) {w8 : World} (hg : (w.alloc o).grownBy w8 (Value.slice L.B t.hs.length L.d).ownBlock) => (Keeps.of_grown hg).blk (h.below (bnew (brefl w) o)).blk (own_ne_blk (h.below (bnew (brefl w) o)).hs (h.below (bnew (brefl w) o)).blk (by decide))
  generalize hn : t.hs.length = n at *
  have hlen : (t.hs.map uc).length = n := by simp [hn]
  generalize t.hs.map uc = xs at *
  have hcc := thc_hi (L := L) h.t8 4
  rw [hn] at hcc
  clear h hn
  generalize (thc t L).toArray = cs at *
  go_enter Try.func12, Try.ntmps12
  go_wp2_with (at_builtin; refine wpList_app (v := .slice L.B n L.d) (ys := [.int .u64 x]) (m := 1) E rfl (.tmp 10) (.tmp 12) rfl base rfl (hown.alloc _) rfl rfl (Rd.new _ _ _ rfl) (by simp [Value.oneCell']) (by unfold maxLen; omega) (by omega) (by simp; omega) ?_; intro A8 c8 w8 own8 hg8 ho8; have hb8 := hbk _ hg8; have k8 : w8.cell? ⟨p, 12, none⟩ = some _ := hb8.cell_ hcc; have f8 := hb8.frozen 12)
  go_end0
  exact ⟨rfl, hgo _ own8 hg8 (ho8.imp id fun e => by simpa using e)⟩
end Go.Proofs.Ytclhlgeicfhdiaa
