/- Threads: the walk of Back. -/
import Derived.Test.YtclhlgeicfhdiaaThreadE
namespace Go.Proofs.Ytclhlgeicfhdiaa
set_option linter.unusedVariables false
set_option linter.unusedSimpArgs false
open Go.RowKit

theorem own_cap {w : World} {base : Nat} {e : TypeId} {n c : Nat} {A : Option Addr} {xs : List Value} (h : w.ownsRow base e 1 (.slice A n c) n xs) : n ≤ c := by
  rcases h.2 with ⟨hv, h0⟩ | ⟨g, cap, cur, hv, hg, hh, hn, hm, hs, hx⟩
  · omega
  · cases hv; exact hn
theorem src_of {w : World} {RA : Option Addr} {rn rc : Nat} {rl : List Int} (hr : Sl us w RA rn rc rl) (N : Nat) (o : Obj) (dp : Option Addr) {cs : List Value} (hcs : (rl.take N).map uc = cs) :
    0 < cs.length → dp = dp ∧ ∃ ad, RA = some ad ∧ ∀ j v, cs[j]? = some v → (w.alloc o).cell? (ad.add j) = some v := by
  intro h0
  have hsrc := hr.word
  have hx : (rl.map uc)[0]? = some (((rl.map uc)[0]?).getD (.int .u64 0)) := by
    have : 0 < rl.length := by rw [← hcs] at h0; simp at h0; omega
    simp [this]
  obtain ⟨ad, hA, _⟩ := hsrc 0 _ hx
  refine ⟨rfl, ad, hA, fun j v hj => ?_⟩
  rw [← hcs, List.map_take, List.getElem?_take] at hj
  split at hj
  · obtain ⟨ad', h2, h3⟩ := hsrc j v hj
    rw [hA] at h2
    cases h2
    exact (World.cell?_alloc_lt w _ _ (block_lt_of_cell h3)).trans h3
  · cases hj
set_option maxHeartbeats 4000000 in
set_option maxRecDepth 100000 in
theorem back_any {w : World} {base p : Nat} {t : Th} {L : TL} (h : TBox w base p t L) {RA : Option Addr} {rn rc : Nat} {rl : List Int} (hr : Sl us w RA rn rc rl) (hap : ∀ ad, RA = some ad → rl ≠ [] → ad.block ≠ p) (hl : t.frames.length ≤ 100000) :
    Calls Try.prog 15 #[.pointer (some ⟨p, 0, none⟩), .slice RA rn rc] w fun e w' => e = .returned (.tuple #[]) ∧ Goes base p w L (t.back (pad 8 rl)) w' := by
  obtain ⟨b0, b1, b2, b3, b4, b5, b6, b7, hpad⟩ := len8 (pad_len 8 rl)
  obtain ⟨a0, a1, a2, a3, a4, a5, a6, a7, htold⟩ := len8 h.t8
  have k := h.c11
  have kfr := h.blk.frozen 11
  have hpl := h.blk.lt
  have hcap := own_cap h.fs
  have hgo := fun {w1 w3 : World} (kp : Keeps (fun b => b = p) w w1) (hb1 : Blk w1 p 45 ((thc t L).toArray.setIfInBounds 11 (.slice L.A (t.frames.length - 1) L.c))) (o : Obj) => back_goes (w3 := w3) h kp hb1 o b0 b1 b2 b3 b4 b5 b6 b7
  have hblk := h.blk
  have hcells : ∀ (x : Value), (((thc t L).toArray.setIfInBounds 11 x)[0]? = some (.int .u64 a0) ∧ ((thc t L).toArray.setIfInBounds 11 x)[1]? = some (.int .u64 a1) ∧ ((thc t L).toArray.setIfInBounds 11 x)[2]? = some (.int .u64 a2) ∧ ((thc t L).toArray.setIfInBounds 11 x)[3]? = some (.int .u64 a3) ∧ ((thc t L).toArray.setIfInBounds 11 x)[4]? = some (.int .u64 a4) ∧ ((thc t L).toArray.setIfInBounds 11 x)[5]? = some (.int .u64 a5) ∧ ((thc t L).toArray.setIfInBounds 11 x)[6]? = some (.int .u64 a6) ∧ ((thc t L).toArray.setIfInBounds 11 x)[7]? = some (.int .u64 a7)) := by
    intro x
    simp [thc, htold, uc]
  rw [hpad]
  generalize hcs : (rl.take 8).map uc = cs
  have hcl : cs.length = Nat.min rn 8 := by rw [← hcs]; simp [hr.len, Nat.min_comm]
  have HF : cs.length ≤ 8 := by rw [hcl]; exact Nat.min_le_right _ _
  have hco : ∀ v ∈ cs, v.oneCell' = true := by rw [← hcs]; exact uc_one _
  have hpd : splice (List.replicate 8 (Value.int .u64 0)) 0 cs = [.int .u64 b0, .int .u64 b1, .int .u64 b2, .int .u64 b3, .int .u64 b4, .int .u64 b5, .int .u64 b6, .int .u64 b7] := by rw [← hcs, pad8, hpad]; rfl
  have HC := Lib.hid hcl
  have HP := Lib.hid hpd
  have HCS := Lib.hid hcs
  have HN : Hid (∃ m : Nat, t.frames.length - 1 = m ∧ ((t.frames.length = 0 ∧ m = 0) ∨ t.frames.length = m + 1)) := ⟨_, rfl, by omega⟩
  obtain ⟨m, hm, hmn⟩ := HN.out
  rw [hm] at hgo
  generalize t.frames.length = n at *
  have hsub : (IntKind.i64.wrap ((n : Int) - 1)) = (n : Int) - 1 := IntWalk.i64_in _ (by omega)
  have hmax : (if (1 : Int) < (n : Int) then (n : Int) - 1 else 0) = (m : Int) := by split <;> omega
  have hmc : (m : Int) ≤ (L.c : Int) := by omega
  have hm0 : (0 : Int) ≤ (m : Int) := by omega
  clear h hcs hcl hpd HN hm hmn hpad htold
  generalize (thc t L).toArray = tcs at *
  generalize L.A = LA at *
  generalize L.c = LC at *
  go_enter Try.func15, Try.ntmps15
  go_wp2_with fail
  refine wp_tail 15 (by kernel_rfl) (by kernel_rfl) ?_
  simp only [List.take_succ_cons, List.take_zero, List.drop_succ_cons, List.drop_zero]
  repeat still_step
  refine wpStill_nil ?_
  go_upto_region 2 with (fail)
  obtain ⟨W1, hW1, kp, hb1⟩ : ∃ W1, (w.setCell ⟨p, 11, none⟩ (.slice LA m LC)).drew = W1 ∧ Keeps (fun b => b = p) w W1 ∧ Blk W1 p 45 (tcs.setIfInBounds 11 (.slice LA m LC)) :=
    ⟨_, rfl, (keepq_set (Keeps.refl _ _)).drew, (hblk.set_ 11 _).drew⟩
  rw [hW1]
  clear hW1
  have hr1 : Sl us W1 RA rn rc rl := by
    by_cases he : rl = []
    · exact ⟨hr.len, hr.cap, by rw [he]; exact Rd.nil _ _, hr.nil_⟩
    · exact kp.sl hr (fun ad h => hap ad h he)
  have hgo1 := fun (o : Obj) {w3 : World} => hgo kp hb1 (w3 := w3) o
  obtain ⟨z0, z1, z2, z3, z4, z5, z6, z7⟩ := hcells (.slice LA m LC)
  have hsrc := src_of hr1 8 (.cells #[.int .u64 0, .int .u64 0, .int .u64 0, .int .u64 0, .int .u64 0, .int .u64 0, .int .u64 0, .int .u64 0] 42) (some ⟨W1.heap.size, 0, none⟩) HCS.out
  have HSR := Lib.hid hsrc
  have hgr := fun {w3 : World} (hg : (W1.alloc (.cells #[.int .u64 0, .int .u64 0, .int .u64 0, .int .u64 0, .int .u64 0, .int .u64 0, .int .u64 0, .int .u64 0] 42)).grownBy w3 (some W1.heap.size)) => (hb1.alloc (.cells #[.int .u64 0, .int .u64 0, .int .u64 0, .int .u64 0, .int .u64 0, .int .u64 0, .int .u64 0, .int .u64 0] 42)).grown hg (by intro e; have := hb1.lt; cases e; omega)
  clear hsrc hr1 hr hgo hblk hcells k kfr hpl hap
  go_upto_region 4 with (refine wpList_copy_blk (o := ⟨some 24, _, _, _, _, _⟩) rfl (.tmp 22) (.tmp 23) 23 23 rfl 33 Try.underlying23 (by kernel_rfl) _ _ 8 8 rn rc rfl rfl W1.heap.size 0 (List.replicate 8 (Value.int .u64 0)) 42 (Blk.new W1 _ _) cs HC.out HSR.out (by simp only [List.length_replicate]; omega) hco ?_; intro w3 hq hg3)
  rw [HP.out] at hq
  have hq := hq.out
  have hb3 := hgr hg3
  have q0 : w3.cell? ⟨W1.heap.size, 0, none⟩ = some (.int .u64 b0) := hq.cell 0
  have q1 : w3.cell? ⟨W1.heap.size, 1, none⟩ = some (.int .u64 b1) := hq.cell 1
  have q2 : w3.cell? ⟨W1.heap.size, 2, none⟩ = some (.int .u64 b2) := hq.cell 2
  have q3 : w3.cell? ⟨W1.heap.size, 3, none⟩ = some (.int .u64 b3) := hq.cell 3
  have q4 : w3.cell? ⟨W1.heap.size, 4, none⟩ = some (.int .u64 b4) := hq.cell 4
  have q5 : w3.cell? ⟨W1.heap.size, 5, none⟩ = some (.int .u64 b5) := hq.cell 5
  have q6 : w3.cell? ⟨W1.heap.size, 6, none⟩ = some (.int .u64 b6) := hq.cell 6
  have q7 : w3.cell? ⟨W1.heap.size, 7, none⟩ = some (.int .u64 b7) := hq.cell 7
  have y0 : w3.cell? ⟨p, 0, none⟩ = some (.int .u64 a0) := hb3.cell_ z0
  have y1 : w3.cell? ⟨p, 1, none⟩ = some (.int .u64 a1) := hb3.cell_ z1
  have y2 : w3.cell? ⟨p, 2, none⟩ = some (.int .u64 a2) := hb3.cell_ z2
  have y3 : w3.cell? ⟨p, 3, none⟩ = some (.int .u64 a3) := hb3.cell_ z3
  have y4 : w3.cell? ⟨p, 4, none⟩ = some (.int .u64 a4) := hb3.cell_ z4
  have y5 : w3.cell? ⟨p, 5, none⟩ = some (.int .u64 a5) := hb3.cell_ z5
  have y6 : w3.cell? ⟨p, 6, none⟩ = some (.int .u64 a6) := hb3.cell_ z6
  have y7 : w3.cell? ⟨p, 7, none⟩ = some (.int .u64 a7) := hb3.cell_ z7
  have f0 := hb3.frozen 0
  have f1 := hb3.frozen 1
  have f2 := hb3.frozen 2
  have f3 := hb3.frozen 3
  have f4 := hb3.frozen 4
  have f5 := hb3.frozen 5
  have f6 := hb3.frozen 6
  have f7 := hb3.frozen 7
  have hz3 := hb3.lt
  have hzq := hq.lt
  have hfin := hgo1 _ hg3
  clear hq hb3 hgr hg3 hgo1 hb1 kp z0 z1 z2 z3 z4 z5 z6 z7 HP HSR HC HCS
  go_wp2_with fail
  go_end0
  exact ⟨rfl, hfin⟩
end Go.Proofs.Ytclhlgeicfhdiaa
