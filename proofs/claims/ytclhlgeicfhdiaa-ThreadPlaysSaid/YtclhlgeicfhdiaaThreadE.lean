/- Threads: the walks of Call, Back, Handle, Noted, Runs, New. -/
import Derived.Test.YtclhlgeicfhdiaaThreadC
import Derived.Test.YtclhlgeicfhdiaaThreadD
namespace Go.Proofs.Ytclhlgeicfhdiaa
set_option linter.unusedVariables false
set_option linter.unusedSimpArgs false
open Go.RowKit

def pad (n : Nat) (l : List Int) : List Int := l.take n ++ List.replicate (n - l.length) 0
theorem pad_len (n : Nat) (l : List Int) : (pad n l).length = n := by unfold pad; simp; omega
theorem frc_pad (fn : Int) (l : List Int) : splice (([.int .i64 fn, .int .i64 0] : List Value) ++ List.replicate 16 (.int .u64 0)) 2 ((l.take 16).map uc) = frc ⟨fn, 0, pad 16 l⟩ := by
  unfold splice frc pad
  simp only [List.map_append, List.map_replicate, List.length_map, List.length_take]
  rw [List.drop_append, List.drop_replicate, List.drop_eq_nil_of_le (by simp)]
  have e : 16 - (2 + min 16 l.length - [Value.int .i64 fn, Value.int .i64 0].length) = 16 - l.length := by simp; omega
  rw [e]
  rfl
theorem pad8 (l : List Int) : splice (List.replicate 8 (Value.int .u64 0)) 0 ((l.take 8).map uc) = (pad 8 l).map uc := by
  unfold splice pad
  simp only [List.map_append, List.map_replicate, List.length_map, List.length_take]
  rw [List.drop_replicate]
  have e : 8 - (0 + min 8 l.length) = 8 - l.length := by omega
  rw [e]
  rfl
set_option maxHeartbeats 4000000 in
set_option maxRecDepth 100000 in
theorem call_any {w : World} {base p : Nat} {t : Th} {L : TL} (h : TBox w base p t L) (fn : Int) {RA : Option Addr} {rn rc : Nat} {rl : List Int} (hr : Sl us w RA rn rc rl) (hbase : base ≤ w.heap.size) (hl : t.frames.length ≤ 100000) (hrn : rn ≤ 100000) :
    Calls Try.prog 11 #[.pointer (some ⟨p, 0, none⟩), .int .i64 fn, .slice RA rn rc] w fun e w' => e = .returned (.tuple #[]) ∧ Goes base p w L (t.call ⟨fn, 0, pad 16 rl⟩) w' := by
  obtain ⟨i0, E⟩ := elem_pf
  have k := h.c11
  have hfs := h.fs
  have hcc := thc_hi (L := L) h.t8 3
  have hpl := h.blk.lt
  have hgo := fun {w2 w8 : World} (o : Obj) {A : Option Addr} {c : Nat} => call_goes (w2 := w2) (w8 := w8) h ⟨fn, 0, pad 16 rl⟩ (pad_len _ _) o (A := A) (c := c) hbase
  have hbk := fun {w2 : World} (hb2 : Below w.heap.size w w2) (o : Obj) {w8 : World} (hg : (w2.alloc o).grownBy w8 (Value.slice L.A t.frames.length L.c).ownBlock) => (Keeps.of_grown hg).blk ((h.below hb2).below (bnew (brefl w2) o)).blk (own_ne_blk ((h.below hb2).below (bnew (brefl w2) o)).fs ((h.below hb2).below (bnew (brefl w2) o)).blk (by decide))
  have hsrc := hr.word
  have hrl := hr.len
  generalize t.frames.length = n at *
  generalize (L.ptrs.map fun q => Value.pointer (some ⟨q, 0, none⟩)) = xs at *
  generalize hcs : (rl.take 16).map uc = cs
  have hcl : cs.length = Nat.min rn 16 := by rw [← hcs]; simp [hrl, Nat.min_comm]
  have hcw : 0 < cs.length → (some (⟨w.heap.size, 2, none⟩ : Addr) = some ⟨w.heap.size, 2, none⟩) ∧ ∃ ad, RA = some ad ∧ ∀ j v, cs[j]? = some v → (w.alloc (.cells (#[.int .i64 fn, .int .i64 0, .int .u64 0, .int .u64 0, .int .u64 0, .int .u64 0, .int .u64 0, .int .u64 0, .int .u64 0, .int .u64 0, .int .u64 0, .int .u64 0, .int .u64 0, .int .u64 0, .int .u64 0, .int .u64 0, .int .u64 0, .int .u64 0]) 40)).cell? (ad.add j) = some v := by
    intro h0
    have hx : (rl.map uc)[0]? = some (((rl.map uc)[0]?).getD (.int .u64 0)) := by
      have : 0 < rl.length := by have := Nat.min_le_left rn 16; rw [hrl]; simp only [Nat.min_eq_min] at *; omega
      simp [this]
    obtain ⟨ad, hA, _⟩ := hsrc 0 _ hx
    refine ⟨rfl, ad, hA, fun j v hj => ?_⟩
    rw [← hcs, List.map_take, List.getElem?_take] at hj
    split at hj
    · obtain ⟨ad', h2, h3⟩ := hsrc j v hj
      rw [hA] at h2
      cases h2
      exact (World.cell?_alloc_lt w _ _ (block_lt_of_cell h3)).trans h3
    · cases hj
  have hco : ∀ v ∈ cs, v.oneCell' = true := by rw [← hcs]; exact uc_one _
  have hpd : splice (([.int .i64 fn, .int .i64 0] : List Value) ++ List.replicate 16 (.int .u64 0)) 2 cs = frc ⟨fn, 0, pad 16 rl⟩ := by rw [← hcs]; exact frc_pad fn rl
  have HF : cs.length ≤ 16 := by rw [hcl]; exact Nat.min_le_right _ _
  have HC := Lib.hid hcl
  have HP := Lib.hid hpd
  have HSR := Lib.hid hcw
  clear h hcs hcl hpd hcw hsrc hr hrl
  generalize (thc t L).toArray = tcs at *
  go_enter Try.func11, Try.ntmps11
  go_upto_region 3 with (refine wpList_copy_blk (o := ⟨some 17, _, _, _, _, _⟩) rfl (.tmp 15) (.tmp 16) 23 23 rfl 33 Try.underlying23 (by kernel_rfl) _ _ 16 16 rn rc rfl rfl w.heap.size 2 (([.int .i64 fn, .int .i64 0] : List Value) ++ List.replicate 16 (.int .u64 0)) 40 (Blk.new w _ _) cs HC.out HSR.out (by simp only [List.length_append, List.length_replicate, List.length_cons, List.length_nil]; omega) hco ?_; intro w2 hq hg2; have hb2 : Below w.heap.size w w2 := bgrown (bnew (brefl w) _) hg2 (fun k e => by cases e; exact Nat.le_refl _); have k2 := keep_below k hb2)
  rw [HP.out] at hq
  have hfs2 := own_below hfs hb2
  have hsz := hb2.size
  go_wp2_with (at_builtin; refine wpList_app (v := .slice L.A n L.c) (ys := [.pointer (some ⟨w.heap.size, 0, none⟩)]) (m := 1) E rfl (.tmp 22) (.tmp 24) rfl base rfl (hfs2.alloc _) rfl rfl (Rd.new _ _ _ rfl) (by simp [Value.oneCell']) (by unfold maxLen; omega) (by omega) (by simp; omega) ?_; intro A8 c8 w8 own8 hg8 ho8; have hb8 := hbk hb2 _ hg8; have k8 : w8.cell? ⟨p, 11, none⟩ = some _ := hb8.cell_ hcc; have f8 := hb8.frozen 11)
  go_end0
  exact ⟨rfl, hgo _ hb2 hq.out own8 hg8 (ho8.imp id fun e => by simpa using e)⟩
end Go.Proofs.Ytclhlgeicfhdiaa
