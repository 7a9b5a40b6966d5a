/- Memories: New, Of, Words, Clone. -/
import Derived.Test.YtkfdikbmcleaoaaCells
namespace Go.Proofs.Ytkfdikbmcleaoaa
set_option linter.unusedVariables false
set_option linter.unusedSimpArgs false
open Go.RowKit

theorem mk_zer (n : Nat) (h : n ≤ 1000000) (w : World) : (Instr.makeSlice 22 (.int .i64 (n : Int)) (.int .i64 (n : Int))).run Try.prog w = .ok (.slice (some ⟨w.heap.size, 0, none⟩) n n) (w.alloc (.cells (zer n) 24)) :=
  run_zer Try.underlying22 (by kernel_rfl) n h w

set_option maxHeartbeats 4000000 in
set_option maxRecDepth 100000 in
theorem words_any {w : World} {p g : Nat} {m : Mem} (h : MBox w p g m) (hl : m.ws.length ≤ 4096) :
    Calls Try.prog 16 #[.pointer (some ⟨p, 0, none⟩)] w fun e w' => ∃ g', e = .returned (.slice (some ⟨g', 0, none⟩) m.ws.length m.ws.length) ∧ Blk w' g' 24 (m.ws.map uc).toArray ∧ w.heap.size ≤ g' ∧ Below w.heap.size w w' := by
  have hmk := mk_zer m.ws.length (by omega)
  have k0 := h.c0
  have hz := block_lt_of_cell k0
  go_enter Try.func16, Try.ntmps16
  go_upto_region 4 with (fail)
  obtain ⟨W0, hW0, j0, hg, hsrc, kb⟩ : ∃ W0, w.alloc (.cells (zer m.ws.length) 24) = W0 ∧ W0.cell? ⟨p, 0, none⟩ = some (.slice (some ⟨g, 0, none⟩) m.ws.length m.ws.length) ∧ Blk W0 w.heap.size 24 (zer m.ws.length) ∧ Rd W0 (some ⟨g, 0, none⟩) (m.ws.map uc) ∧ Below w.heap.size w W0 :=
    ⟨_, rfl, keep_below k0 (bnew (brefl w) _), Blk.new _ _ _, by simpa using (h.r.alloc _).rd, bnew (brefl w) _⟩
  rw [hW0]
  clear hW0 h hmk k0
  have HS : Hid (splice (List.replicate m.ws.length (Value.int .u64 0)) 0 (m.ws.map uc) = m.ws.map uc) := splice_all _ _ (by simp)
  have hcl : (m.ws.map uc).length = m.ws.length := by simp
  have hou := uc_one m.ws
  generalize hcs : m.ws.map uc = cs at *
  generalize hnn : m.ws.length = n at *
  have HCS := Lib.hid hcs
  have HNN := Lib.hid hnn
  clear hcs hnn
  have hz0 := block_lt_of_cell j0
  generalize hB : w.heap.size = B at *
  have HB := Lib.hid hB
  have HC := Lib.hid hcl
  clear hB hcl
  go_wp2_with (refine wpList_copy_blk (o := ⟨some 17, _, _, _, _, _⟩) rfl (.tmp 12) (.tmp 16) 22 22 rfl 24 Try.underlying22 (by kernel_rfl) _ _ n n n n rfl rfl B 0 (List.replicate n (Value.int .u64 0)) 24 hg cs (by rw [HC.out]; simp) (fun _ => ⟨rfl, _, rfl, hsrc.some_⟩) (by rw [HC.out]; simp) hou ?_)
  intro w2 HG2 hB2
  go_wp2
  go_ret
  have e := HG2.out
  rw [HS.out] at e
  exact ⟨B, by rw [HNN.out]; rfl, by rw [HCS.out]; exact e, by rw [HB.out]; exact Nat.le_refl _, by rw [HB.out]; exact kb.grown hB2 (by have := kb.size; rw [HB.out] at this; exact this) (fun k hk => by cases hk; exact Nat.le_refl _)⟩
theorem words_nil (w : World) : Calls Try.prog 16 #[.pointer none] w fun e w' => e = .returned (.slice none 0 0) ∧ w = w' := by
  go_enter Try.func16, Try.ntmps16
  go_wp2
  go_ret
  exact ⟨rfl, rfl⟩

def MCC (g n : Nat) : Array Value := #[.slice (some ⟨g, 0, none⟩) n n, .int .i64 0, .int .i64 0, .int .i64 0, .bool false, .bool false]
def mem0 (l : List Int) : Mem := ⟨l, 0, 0, 0, false, false⟩
set_option maxHeartbeats 4000000 in
set_option maxRecDepth 100000 in
theorem new_yes (n : Nat) (h1 : 1 ≤ n) (h2 : n ≤ 4096) (w : World) :
    Calls Try.prog 18 #[.int .i64 (n : Int)] w fun e w' => ∃ p g, e = .returned (.pointer (some ⟨p, 0, none⟩)) ∧ MBox w' p g (mem0 (List.replicate n 0)) ∧ w.heap.size ≤ p ∧ w.heap.size ≤ g ∧ Below w.heap.size w w' := by
  have hmk := mk_zer n (by omega)
  have t1 : (1 : Int) ≤ (n : Int) := by omega
  have t2 : (n : Int) ≤ 4096 := by omega
  go_enter Try.func18, Try.ntmps18
  go_wp2
  go_ret
  refine ⟨w.heap.size + 1, w.heap.size, rfl, ⟨?_, ?_⟩, by omega, Nat.le_refl _, bnew (bnew (brefl w) _) _⟩
  · have := Blk.new (w.alloc (.cells (zer n) 24)) 51 #[.slice (some ⟨w.heap.size, 0, none⟩) n n, .int .i64 0, .int .i64 0, .int .i64 0, .bool false, .bool false]
    simpa [mem0] using this
  · have := (Blk.new w 24 (zer n)).alloc (.cells #[.slice (some ⟨w.heap.size, 0, none⟩) n n, .int .i64 0, .int .i64 0, .int .i64 0, .bool false, .bool false] 51)
    rw [zer_map] at this
    rw [← zer_map] at this
    simpa [mem0, zer, uc, List.map_replicate] using this
theorem new_no (n : Int) (h : n < 1 ∨ 4096 < n) (w : World) : Calls Try.prog 18 #[.int .i64 n] w fun e w' => e = .returned (.pointer none) ∧ w = w' := by
  rcases h with h | h
  · go_enter Try.func18, Try.ntmps18
    go_wp2
    go_ret
    exact ⟨rfl, rfl⟩
  · have t : decide (n < 1) = false := decide_eq_false (by omega)
    go_enter Try.func18, Try.ntmps18
    go_wp2
    go_ret
    exact ⟨rfl, rfl⟩
theorem of_no {A : Option Addr} {n c : Nat} (h : n < 1 ∨ 4096 < n) (hn : n ≤ 9223372036854775807) (w : World) : Calls Try.prog 7 #[.slice A n c] w fun e w' => e = .returned (.pointer none) ∧ w = w' := by
  have hno := new_no (n : Int) (by omega)
  go_enter Try.func7, Try.ntmps7
  go_wp2_with (go_at_call 18; refine (hno _).mono ?_; rintro e w1 ⟨rfl, rfl⟩)
  go_ret
  exact ⟨rfl, rfl⟩
set_option maxHeartbeats 4000000 in
set_option maxRecDepth 100000 in
theorem of_yes {A : Option Addr} {n c : Nat} {l : List Int} {w : World} (hs : Sl us w A n c l) (h1 : 1 ≤ n) (h2 : n ≤ 4096) :
    Calls Try.prog 7 #[.slice A n c] w fun e w' => ∃ p g, e = .returned (.pointer (some ⟨p, 0, none⟩)) ∧ MBox w' p g (mem0 l) ∧ w.heap.size ≤ p ∧ w.heap.size ≤ g ∧ Below w.heap.size w w' := by
  go_enter Try.func7, Try.ntmps7
  go_wp2_with fail
  refine (new_yes n h1 h2 _).mono ?_
  rintro e w1 ⟨p, g, rfl, hm, hp, hg, hb⟩
  have k0 := hm.c0
  have hl0 : (mem0 (List.replicate n 0)).ws.length = n := by simp [mem0]
  rw [hl0] at k0
  have hne := hm.ne
  have hgb : Blk w1 g 24 (List.replicate n (Value.int .u64 0)).toArray := by simpa [mem0, uc, List.map_replicate] using hm.r
  have HS : Hid (splice (List.replicate n (Value.int .u64 0)) 0 (l.map uc) = l.map uc) := splice_all _ _ (by simp [hs.len])
  have HC : Hid ((l.map uc).length = n) := by simp [Hid, hs.len]
  have hou := uc_one l
  have hw := (hs.below hb).word
  have HL : Hid (l.length = n) := hs.len
  have HPB : Hid (Blk w1 p 51 (MCC g n)) := by
    have := hm.b
    rw [hl0] at this
    exact this
  generalize hcs : l.map uc = cs at *
  have HCS := Lib.hid hcs
  clear hcs hl0 hm hs
  have hW : Hid (∀ j v, cs[j]? = some v → ∃ ad, A = some ad ∧ w1.cell? (ad.add j) = some v) := hw
  clear hw
  obtain ⟨ad, rfl, hsrc⟩ : ∃ ad, A = some ad ∧ ∀ j v, cs[j]? = some v → w1.cell? (ad.add j) = some v := by
    have hc0 : 0 < cs.length := by rw [HC.out]; omega
    obtain ⟨ad, e, _⟩ := hW.out 0 _ (List.getElem?_eq_getElem hc0)
    refine ⟨ad, e, fun j v hj => ?_⟩
    obtain ⟨ad', e', h'⟩ := hW.out j v hj
    rw [e] at e'
    cases e'
    exact h'
  have HSRC := Lib.hid hsrc
  clear hsrc hW
  go_wp2_with (refine wpList_copy_blk (o := ⟨some 14, _, _, _, _, _⟩) rfl (.tmp 12) (.tmp 13) 22 22 rfl 24 Try.underlying22 (by kernel_rfl) _ _ n n n c rfl rfl g 0 (List.replicate n (Value.int .u64 0)) 24 hgb cs (by rw [HC.out]; simp) (fun _ => ⟨rfl, _, rfl, HSRC.out⟩) (by rw [HC.out]; simp) hou ?_)
  intro w2 HG2 hB2
  go_wp2
  go_ret
  have e := HG2.out
  rw [HS.out, ← HCS.out] at e
  refine ⟨p, g, rfl, ⟨?_, e⟩, hp, hg, bgrown hb hB2 (fun k hk => by cases hk; exact hg)⟩
  have := (HPB.out).grown hB2 (by simpa using hne)
  simpa [mem0, MCC, HL.out] using this

set_option maxHeartbeats 4000000 in
set_option maxRecDepth 100000 in
theorem clone_any {w : World} {p g : Nat} {m : Mem} (h : MBox w p g m) (hl : m.ws.length ≤ 4096) :
    Calls Try.prog 17 #[.pointer (some ⟨p, 0, none⟩)] w fun e w' => ∃ p' g', e = .returned (.pointer (some ⟨p', 0, none⟩)) ∧ MBox w' p' g' m ∧ w.heap.size ≤ p' ∧ w.heap.size ≤ g' ∧ Below w.heap.size w w' := by
  have k0 := h.c0; have k1 := h.c1; have k2 := h.c2; have k3 := h.c3; have k4 := h.c4; have k5 := h.c5
  have hz := block_lt_of_cell k0
  go_enter Try.func17, Try.ntmps17
  go_wp2_with fail
  obtain ⟨W0, hW0, hm, hb, kb⟩ : ∃ W0, w.alloc (.cells #[.slice (some ⟨g, 0, none⟩) m.ws.length m.ws.length, .int .i64 m.ac, .int .i64 m.wr, .int .i64 m.la, .bool m.nm, .bool m.ft] 51) = W0 ∧ MBox W0 p g m ∧ Blk W0 w.heap.size 51 #[.slice (some ⟨g, 0, none⟩) m.ws.length m.ws.length, .int .i64 m.ac, .int .i64 m.wr, .int .i64 m.la, .bool m.nm, .bool m.ft] ∧ Below w.heap.size w W0 :=
    ⟨_, rfl, h.below (bnew (brefl w) _), Blk.new _ _ _, bnew (brefl w) _⟩
  rw [hW0]
  clear hW0 h k0 k1 k2 k3 k4 k5
  refine (words_any hm hl).mono ?_
  rintro e w1 ⟨g', rfl, hr, hg, hb1⟩
  have hb2 := hb.below_ hb1
  have hne := hb2.ne_ hr (by decide)
  have hz1 := hb2.lt
  have f0 := hb2.frozen 0
  have hw := kb.size
  have kb1 := bnext kb hb1
  have c0 : w1.cell? ⟨w.heap.size, 0, none⟩ = some (.slice (some ⟨g, 0, none⟩) m.ws.length m.ws.length) := hb2.cell 0
  have HB2 := Lib.hid hb2
  have HR := Lib.hid hr
  clear hb2 hr hb hb1 hm
  go_wp2
  go_ret
  refine ⟨w.heap.size, g', rfl, ⟨?_, HR.out.far (p := ⟨w.heap.size, 0, none⟩) hne.symm _⟩, Nat.le_refl _, by omega, bset kb1 (Nat.le_refl _) _⟩
  simpa using HB2.out.set_ 0 (.slice (some ⟨g', 0, none⟩) m.ws.length m.ws.length)
theorem clone_nil (w : World) : Calls Try.prog 17 #[.pointer none] w fun e w' => e = .returned (.pointer none) ∧ w = w' := by
  go_enter Try.func17, Try.ntmps17
  go_wp2
  go_ret
  exact ⟨rfl, rfl⟩
end Go.Proofs.Ytkfdikbmcleaoaa
