/- Threads: the walk of a call of a thread. -/
import Derived.Test.YtclhlgeicfhdiaaThreadF
import Derived.Test.YtclhlgeicfhdiaaThreadG
namespace Go.Proofs.Ytclhlgeicfhdiaa
set_option linter.unusedVariables false
set_option linter.unusedSimpArgs false
open Go.RowKit

def Fr.hit (f : Fr) (n : Int) : Fr := ⟨f.fn, n, if 0 ≤ n then f.r.set (n % 16).toNat (IntKind.u64.wrap ((f.r[(n % 16).toNat]?).getD 0 + 1)) else f.r⟩
def Th.hit (t : Th) (n : Int) : Th := match t.frames[t.frames.length - 1]? with
  | none => t
  | some f => t.touch (t.frames.length - 1) (f.hit n)
def Th.doo (t : Th) (k n : Int) (l : List Int) : Th :=
  if k = 0 then t.call ⟨n, 0, pad 16 l⟩ else if k = 1 then t.back (pad 8 l) else if k = 2 then t.note (IntKind.u64.wrap n) else if k = 3 then t.hit n else t
theorem Fr.hit_len (f : Fr) (n : Int) (h : f.r.length = 16) : (f.hit n).r.length = 16 := by
  unfold Fr.hit
  dsimp only
  split
  · rw [List.length_set]; exact h
  · exact h
theorem Goes.of_below {base p : Nat} {w W0 w' : World} {L : TL} {t : Th} (hb : Below w.heap.size w W0) (h : Goes base p W0 L t w') : Goes base p w L t w' := by
  obtain ⟨L', h1, h2, h3⟩ := h
  refine ⟨L', h1, (Keeps.of_below hb : Keeps (L.S p) w W0).trans_ h2, fun b hb' => (h3 b hb').imp id fun ⟨q1, q2⟩ => ⟨Nat.le_trans hb.size q1, q2⟩⟩
theorem Goes.same {base p : Nat} {w w' : World} {L : TL} {t : Th} (h : TBox w base p t L) (hb : Below w.heap.size w w') : Goes base p w L t w' := ⟨L, h.below hb, Keeps.of_below hb, fun b q => .inl q⟩
def OPV (k n : Int) (RA : Option Addr) (rn rc : Nat) : Value := .agg #[.int .i64 k, .int .i64 n, .slice RA rn rc]
set_option maxHeartbeats 4000000 in
set_option maxRecDepth 100000 in
theorem do_call {w : World} {base p : Nat} {t : Th} {L : TL} (h : TBox w base p t L) {RA : Option Addr} {rn rc : Nat} {rl : List Int} (hr : Sl us w RA rn rc rl) (hbase : base ≤ w.heap.size) (hap : ∀ ad, RA = some ad → rl ≠ [] → ad.block ≠ p) (hl : t.frames.length ≤ 10000) (hl2 : t.hs.length ≤ 10000) (hrn : rn ≤ 10000) (n : Int) : Calls Try.prog 9 #[.pointer (some ⟨p, 0, none⟩), .agg #[.int .i64 0, .int .i64 n, .slice RA rn rc]] w fun e w' => e = .returned (.tuple #[]) ∧ Goes base p w L (t.call ⟨n, 0, pad 16 rl⟩) w' := by
  go_enter Try.func9, Try.ntmps9
  go_upto_region 1 with (fail)
  obtain ⟨W0, hW0, z0, z1, z2, h0, hr0, kb⟩ : ∃ W0, w.alloc (.cells #[.int .i64 0, .int .i64 n, .slice RA rn rc] 30) = W0 ∧ W0.cell? ⟨w.heap.size, 0, none⟩ = some (.int .i64 0) ∧ W0.cell? ⟨w.heap.size, 1, none⟩ = some (.int .i64 n) ∧ W0.cell? ⟨w.heap.size, 2, none⟩ = some (.slice RA rn rc) ∧ TBox W0 base p t L ∧ Sl us W0 RA rn rc rl ∧ Below w.heap.size w W0 :=
    ⟨_, rfl, by go_simp, by go_simp, by go_simp, h.below (bnew (brefl w) _), hr.alloc _, bnew (brefl w) _⟩
  rw [hW0]
  clear hW0
  have hsz := kb.size
  have hcall := call_any h0 n hr0 (by omega) (by omega) (by omega)
  clear hr h h0 hr0
  go_wp2_with (go_at_call 11; refine hcall.mono ?_; rintro e w1 ⟨rfl, hg⟩)
  go_end0
  exact ⟨rfl, hg.of_below kb⟩
set_option maxHeartbeats 4000000 in
set_option maxRecDepth 100000 in
theorem do_back {w : World} {base p : Nat} {t : Th} {L : TL} (h : TBox w base p t L) {RA : Option Addr} {rn rc : Nat} {rl : List Int} (hr : Sl us w RA rn rc rl) (hbase : base ≤ w.heap.size) (hap : ∀ ad, RA = some ad → rl ≠ [] → ad.block ≠ p) (hl : t.frames.length ≤ 10000) (hl2 : t.hs.length ≤ 10000) (hrn : rn ≤ 10000) (n : Int) : Calls Try.prog 9 #[.pointer (some ⟨p, 0, none⟩), .agg #[.int .i64 1, .int .i64 n, .slice RA rn rc]] w fun e w' => e = .returned (.tuple #[]) ∧ Goes base p w L (t.back (pad 8 rl)) w' := by
  go_enter Try.func9, Try.ntmps9
  go_upto_region 1 with (fail)
  obtain ⟨W0, hW0, z0, z1, z2, h0, hr0, kb⟩ : ∃ W0, w.alloc (.cells #[.int .i64 1, .int .i64 n, .slice RA rn rc] 30) = W0 ∧ W0.cell? ⟨w.heap.size, 0, none⟩ = some (.int .i64 1) ∧ W0.cell? ⟨w.heap.size, 1, none⟩ = some (.int .i64 n) ∧ W0.cell? ⟨w.heap.size, 2, none⟩ = some (.slice RA rn rc) ∧ TBox W0 base p t L ∧ Sl us W0 RA rn rc rl ∧ Below w.heap.size w W0 :=
    ⟨_, rfl, by go_simp, by go_simp, by go_simp, h.below (bnew (brefl w) _), hr.alloc _, bnew (brefl w) _⟩
  rw [hW0]
  clear hW0
  have hsz := kb.size
  have hcall := back_any h0 hr0 hap (by omega)
  clear hr h h0 hr0
  go_wp2_with (go_at_call 15; refine hcall.mono ?_; rintro e w1 ⟨rfl, hg⟩)
  go_end0
  exact ⟨rfl, hg.of_below kb⟩
set_option maxHeartbeats 4000000 in
set_option maxRecDepth 100000 in
theorem do_note {w : World} {base p : Nat} {t : Th} {L : TL} (h : TBox w base p t L) {RA : Option Addr} {rn rc : Nat} {rl : List Int} (hr : Sl us w RA rn rc rl) (hbase : base ≤ w.heap.size) (hap : ∀ ad, RA = some ad → rl ≠ [] → ad.block ≠ p) (hl : t.frames.length ≤ 10000) (hl2 : t.hs.length ≤ 10000) (hrn : rn ≤ 10000) (n : Int) : Calls Try.prog 9 #[.pointer (some ⟨p, 0, none⟩), .agg #[.int .i64 2, .int .i64 n, .slice RA rn rc]] w fun e w' => e = .returned (.tuple #[]) ∧ Goes base p w L (t.note (IntKind.u64.wrap n)) w' := by
  go_enter Try.func9, Try.ntmps9
  go_upto_region 1 with (fail)
  obtain ⟨W0, hW0, z0, z1, z2, h0, hr0, kb⟩ : ∃ W0, w.alloc (.cells #[.int .i64 2, .int .i64 n, .slice RA rn rc] 30) = W0 ∧ W0.cell? ⟨w.heap.size, 0, none⟩ = some (.int .i64 2) ∧ W0.cell? ⟨w.heap.size, 1, none⟩ = some (.int .i64 n) ∧ W0.cell? ⟨w.heap.size, 2, none⟩ = some (.slice RA rn rc) ∧ TBox W0 base p t L ∧ Sl us W0 RA rn rc rl ∧ Below w.heap.size w W0 :=
    ⟨_, rfl, by go_simp, by go_simp, by go_simp, h.below (bnew (brefl w) _), hr.alloc _, bnew (brefl w) _⟩
  rw [hW0]
  clear hW0
  have hsz := kb.size
  have hcall := note_any h0 (IntKind.u64.wrap n) (by omega) (by omega)
  clear hr h h0 hr0
  go_wp2_with (go_at_call 12; refine hcall.mono ?_; rintro e w1 ⟨rfl, hg⟩)
  go_end0
  exact ⟨rfl, hg.of_below kb⟩
set_option maxHeartbeats 4000000 in
set_option maxRecDepth 100000 in
theorem do_none {w : World} {base p : Nat} {t : Th} {L : TL} (h : TBox w base p t L) {RA : Option Addr} {rn rc : Nat} {rl : List Int} (hr : Sl us w RA rn rc rl) (hbase : base ≤ w.heap.size) (hap : ∀ ad, RA = some ad → rl ≠ [] → ad.block ≠ p) (hl : t.frames.length ≤ 10000) (hl2 : t.hs.length ≤ 10000) (hrn : rn ≤ 10000) (n : Int) (hf : t.frames.length = 0) : Calls Try.prog 9 #[.pointer (some ⟨p, 0, none⟩), .agg #[.int .i64 3, .int .i64 n, .slice RA rn rc]] w fun e w' => e = .returned (.tuple #[]) ∧ Goes base p w L t w' := by
  go_enter Try.func9, Try.ntmps9
  go_upto_region 1 with (fail)
  obtain ⟨W0, hW0, z0, z1, z2, h0, hr0, kb⟩ : ∃ W0, w.alloc (.cells #[.int .i64 3, .int .i64 n, .slice RA rn rc] 30) = W0 ∧ W0.cell? ⟨w.heap.size, 0, none⟩ = some (.int .i64 3) ∧ W0.cell? ⟨w.heap.size, 1, none⟩ = some (.int .i64 n) ∧ W0.cell? ⟨w.heap.size, 2, none⟩ = some (.slice RA rn rc) ∧ TBox W0 base p t L ∧ Sl us W0 RA rn rc rl ∧ Below w.heap.size w W0 :=
    ⟨_, rfl, by go_simp, by go_simp, by go_simp, h.below (bnew (brefl w) _), hr.alloc _, bnew (brefl w) _⟩
  rw [hW0]
  clear hW0
  have hsz := kb.size
  have hcall := top_none h0 (List.eq_nil_of_length_eq_zero hf)
  have hg := Goes.same h kb
  clear hr h h0 hr0
  go_wp2_with (go_at_call 13; refine hcall.mono ?_; rintro e w1 ⟨rfl, rfl⟩)
  first | go_end0 | refine bodyPost_ret (results_none rfl _ _ _) rfl ?_
  exact ⟨rfl, hg⟩
set_option maxHeartbeats 4000000 in
set_option maxRecDepth 100000 in
theorem do_else {w : World} {base p : Nat} {t : Th} {L : TL} (h : TBox w base p t L) {RA : Option Addr} {rn rc : Nat} {rl : List Int} (hr : Sl us w RA rn rc rl) (hbase : base ≤ w.heap.size) (hap : ∀ ad, RA = some ad → rl ≠ [] → ad.block ≠ p) (hl : t.frames.length ≤ 10000) (hl2 : t.hs.length ≤ 10000) (hrn : rn ≤ 10000) (k n : Int) (h0 : k ≠ 0) (h1 : k ≠ 1) (h2 : k ≠ 2) (h3 : k ≠ 3) : Calls Try.prog 9 #[.pointer (some ⟨p, 0, none⟩), .agg #[.int .i64 k, .int .i64 n, .slice RA rn rc]] w fun e w' => e = .returned (.tuple #[]) ∧ Goes base p w L t w' := by
  have t0 : (k == 0) = false := by simpa using h0
  have t1 : (k == 1) = false := by simpa using h1
  have t2 : (k == 2) = false := by simpa using h2
  have t3 : (k == 3) = false := by simpa using h3
  have hg := fun (W0 : World) (kb : Below w.heap.size w W0) => Goes.same h kb
  clear h0 h1 h2 h3 h hr
  go_enter Try.func9, Try.ntmps9
  go_wp2
  first | go_end0 | refine bodyPost_ret (results_none rfl _ _ _) rfl ?_
  exact ⟨rfl, hg _ (bnew (brefl w) _)⟩
set_option maxHeartbeats 4000000 in
set_option maxRecDepth 100000 in
theorem do_neg {w : World} {base p : Nat} {t : Th} {L : TL} (h : TBox w base p t L) {RA : Option Addr} {rn rc : Nat} {rl : List Int} (hr : Sl us w RA rn rc rl) (hbase : base ≤ w.heap.size) (hap : ∀ ad, RA = some ad → rl ≠ [] → ad.block ≠ p) (hl : t.frames.length ≤ 10000) (hl2 : t.hs.length ≤ 10000) (hrn : rn ≤ 10000) (n : Int) (hn : n < 0) {m q : Nat} {f : Fr} (hf : t.frames.length = m + 1) (hfm : t.frames[m]? = some f) (hq : L.ptrs[m]? = some q) (hb : Blk w q 40 (frc f).toArray) : Calls Try.prog 9 #[.pointer (some ⟨p, 0, none⟩), .agg #[.int .i64 3, .int .i64 n, .slice RA rn rc]] w fun e w' => e = .returned (.tuple #[]) ∧ Goes base p w L (t.touch m ⟨f.fn, n, f.r⟩) w' := by
  have t0 : ¬ (0 ≤ n) := by omega
  have t1 : decide (0 ≤ n) = false := decide_eq_false t0
  go_enter Try.func9, Try.ntmps9
  go_upto_region 1 with (fail)
  obtain ⟨W0, hW0, z0, z1, z2, h0, hr0, kb⟩ : ∃ W0, w.alloc (.cells #[.int .i64 3, .int .i64 n, .slice RA rn rc] 30) = W0 ∧ W0.cell? ⟨w.heap.size, 0, none⟩ = some (.int .i64 3) ∧ W0.cell? ⟨w.heap.size, 1, none⟩ = some (.int .i64 n) ∧ W0.cell? ⟨w.heap.size, 2, none⟩ = some (.slice RA rn rc) ∧ TBox W0 base p t L ∧ Sl us W0 RA rn rc rl ∧ Below w.heap.size w W0 :=
    ⟨_, rfl, by go_simp, by go_simp, by go_simp, h.below (bnew (brefl w) _), hr.alloc _, bnew (brefl w) _⟩
  rw [hW0]
  clear hW0
  have hsz := kb.size
  have hcall := top_some h0 hf hq (by omega)
  have hb0 := hb.below_ kb
  have c1 : W0.cell? ⟨q, 1, none⟩ = some (.int .i64 f.at_) := hb0.cell 1
  have f1 := hb0.frozen 1
  have hql := hb0.lt
  have hqn : w.heap.size ≠ q := by have := hb.lt; omega
  have hgo := fun (w' : World) (hk : Keeps (fun b => b = q) W0 w') => touch_goes h0 (by omega) hq ⟨f.fn, n, f.r⟩ (h.r16 f (List.mem_of_getElem? hfm)) hk
  have hset : (frc f).toArray.setIfInBounds 1 (.int .i64 n) = (frc ⟨f.fn, n, f.r⟩).toArray := rfl
  have hfin := fun (w' : World) (hk : Keeps (fun b => b = q) W0 w') (hb : Blk w' q 40 ((frc f).toArray.setIfInBounds 1 (.int .i64 n))) => hgo w' hk (by rw [← hset]; exact hb)
  clear hr h h0 hr0 hf hfm hq hb hgo hset hl hl2 hrn hbase hap
  go_wp2_with (go_at_call 13; refine hcall.mono ?_; rintro e w1 ⟨rfl, rfl⟩)
  first | go_end0 | refine bodyPost_ret (results_none rfl _ _ _) rfl ?_
  exact ⟨rfl, (hfin _ (keepq_set (Keeps.refl _ _)) (Blk.set_ hb0 _ _)).of_below kb⟩
set_option maxHeartbeats 4000000 in
set_option maxRecDepth 100000 in
theorem do_pos {w : World} {base p : Nat} {t : Th} {L : TL} (h : TBox w base p t L) {RA : Option Addr} {rn rc : Nat} {rl : List Int} (hr : Sl us w RA rn rc rl) (hbase : base ≤ w.heap.size) (hap : ∀ ad, RA = some ad → rl ≠ [] → ad.block ≠ p) (hl : t.frames.length ≤ 10000) (hl2 : t.hs.length ≤ 10000) (hrn : rn ≤ 10000) (n : Int) (hn : 0 ≤ n) {m q : Nat} {f : Fr} (hf : t.frames.length = m + 1) (hfm : t.frames[m]? = some f) (hq : L.ptrs[m]? = some q) (hb : Blk w q 40 (frc f).toArray) {j : Nat} {x : Int} (hj : n.tmod 16 = (j : Int)) (hj2 : j < 16) (hx : f.r[j]? = some x) : Calls Try.prog 9 #[.pointer (some ⟨p, 0, none⟩), .agg #[.int .i64 3, .int .i64 n, .slice RA rn rc]] w fun e w' => e = .returned (.tuple #[]) ∧ Goes base p w L (t.touch m ⟨f.fn, n, f.r.set j (IntKind.u64.wrap (x + 1))⟩) w' := by
  go_enter Try.func9, Try.ntmps9
  go_upto_region 1 with (fail)
  obtain ⟨W0, hW0, z0, z1, z2, h0, hr0, kb⟩ : ∃ W0, w.alloc (.cells #[.int .i64 3, .int .i64 n, .slice RA rn rc] 30) = W0 ∧ W0.cell? ⟨w.heap.size, 0, none⟩ = some (.int .i64 3) ∧ W0.cell? ⟨w.heap.size, 1, none⟩ = some (.int .i64 n) ∧ W0.cell? ⟨w.heap.size, 2, none⟩ = some (.slice RA rn rc) ∧ TBox W0 base p t L ∧ Sl us W0 RA rn rc rl ∧ Below w.heap.size w W0 :=
    ⟨_, rfl, by go_simp, by go_simp, by go_simp, h.below (bnew (brefl w) _), hr.alloc _, bnew (brefl w) _⟩
  rw [hW0]
  clear hW0
  have hsz := kb.size
  have hcall := top_some h0 hf hq (by omega)
  have hb0 := hb.below_ kb
  have c1 : W0.cell? ⟨q, 1, none⟩ = some (.int .i64 f.at_) := hb0.cell 1
  have f1 := hb0.frozen 1
  have hql := hb0.lt
  have hqn : w.heap.size ≠ q := by have := hb.lt; omega
  have hgo := fun (w' : World) (hk : Keeps (fun b => b = q) W0 w') => touch_goes h0 (by omega) hq ⟨f.fn, n, f.r.set j (IntKind.u64.wrap (x + 1))⟩ (by simpa using h.r16 f (List.mem_of_getElem? hfm)) hk
  have c2 : W0.cell? ⟨q, 2 + j, none⟩ = some (.int .u64 x) := by
    rw [hb0.cell]
    simp [frc, uc, List.getElem?_cons, hx, show 2 + j ≠ 0 by omega, show 2 + j - 1 ≠ 0 by omega, show 2 + j - 1 - 1 = j by omega]
  have f2 := hb0.frozen (2 + j)
  have bb0 : (0 : Int) ≤ (j : Int) := by omega
  have bb1 : (j : Int) < 16 := by omega
  have hset : ((frc f).toArray.setIfInBounds 1 (.int .i64 n)).setIfInBounds (2 + j) (.int .u64 (IntKind.u64.wrap (x + 1))) = (frc ⟨f.fn, n, f.r.set j (IntKind.u64.wrap (x + 1))⟩).toArray := by
    simp only [frc, uc, List.setIfInBounds_toArray, List.set_cons_succ, List.set_cons_zero, List.map_set]
    rw [show 2 + j = j + 1 + 1 by omega]
    simp [List.set_cons_succ]
  have hfin := fun (w' : World) (hk : Keeps (fun b => b = q) W0 w') (hb : Blk w' q 40 (((frc f).toArray.setIfInBounds 1 (.int .i64 n)).setIfInBounds (2 + j) (.int .u64 (IntKind.u64.wrap (x + 1))))) => hgo w' hk (by rw [← hset]; exact hb)
  clear hr h h0 hr0 hf hfm hq hb hgo hset hl hl2 hrn hbase hap
  go_wp2_with (go_at_call 13; refine hcall.mono ?_; rintro e w1 ⟨rfl, rfl⟩)
  refine wp_tail 12 (by kernel_rfl) (by kernel_rfl) ?_
  simp only [List.take_succ_cons, List.take_zero, List.drop_succ_cons, List.drop_zero]
  repeat still_step
  refine wpStill_nil ?_
  go_wp2_with fail
  go_end0
  exact ⟨rfl, (hfin _ (keepq_set (keepq_drew (keepq_set (Keeps.refl _ _)))) (Blk.set_ (Blk.drew (Blk.set_ hb0 _ _)) _ _)).of_below kb⟩
theorem do_any {w : World} {base p : Nat} {t : Th} {L : TL} (h : TBox w base p t L) {RA : Option Addr} {rn rc : Nat} {rl : List Int} (hr : Sl us w RA rn rc rl) (hbase : base ≤ w.heap.size) (hap : ∀ ad, RA = some ad → rl ≠ [] → ad.block ≠ p) (hl : t.frames.length ≤ 10000) (hl2 : t.hs.length ≤ 10000) (hrn : rn ≤ 10000) (k n : Int) : Calls Try.prog 9 #[.pointer (some ⟨p, 0, none⟩), .agg #[.int .i64 k, .int .i64 n, .slice RA rn rc]] w fun e w' => e = .returned (.tuple #[]) ∧ Goes base p w L (t.doo k n rl) w' := by
  unfold Th.doo
  by_cases h0 : k = 0
  · subst h0
    rw [if_pos rfl]
    exact do_call h hr hbase hap hl hl2 hrn n
  rw [if_neg h0]
  by_cases h1 : k = 1
  · subst h1
    rw [if_pos rfl]
    exact do_back h hr hbase hap hl hl2 hrn n
  rw [if_neg h1]
  by_cases h2 : k = 2
  · subst h2
    rw [if_pos rfl]
    exact do_note h hr hbase hap hl hl2 hrn n
  rw [if_neg h2]
  by_cases h3 : k = 3
  · subst h3
    rw [if_pos rfl]
    unfold Th.hit
    rcases Nat.eq_zero_or_pos t.frames.length with hz | hz
    · rw [List.getElem?_eq_none (by omega)]
      exact do_none h hr hbase hap hl hl2 hrn n hz
    · obtain ⟨m, hm⟩ : ∃ m, t.frames.length = m + 1 := ⟨t.frames.length - 1, by omega⟩
      have hm2 : t.frames.length - 1 = m := by omega
      rw [hm2]
      obtain ⟨f, hf⟩ : ∃ f, t.frames[m]? = some f := ⟨t.frames[m]'(by omega), List.getElem?_eq_getElem (i := m) _⟩
      rw [hf]
      dsimp only
      obtain ⟨q, hq, hb⟩ := h.fr m f hf
      by_cases hn : n < 0
      · have e : f.hit n = ⟨f.fn, n, f.r⟩ := by unfold Fr.hit; rw [if_neg (by omega)]
        rw [e]
        exact do_neg h hr hbase hap hl hl2 hrn n hn hm hf hq hb
      · have hr16 := h.r16 f (List.mem_of_getElem? hf)
        have h4 : (n % 16).toNat < 16 := by omega
        have h5 : n.tmod 16 = ((n % 16).toNat : Int) := by rw [Int.tmod_eq_emod_of_nonneg (by omega)]; omega
        obtain ⟨x, hx⟩ : ∃ x, f.r[(n % 16).toNat]? = some x := ⟨f.r[(n % 16).toNat]'(by omega), List.getElem?_eq_getElem (i := (n % 16).toNat) _⟩
        have e : f.hit n = ⟨f.fn, n, f.r.set (n % 16).toNat (IntKind.u64.wrap (x + 1))⟩ := by unfold Fr.hit; rw [if_pos (by omega), hx]; rfl
        rw [e]
        exact do_pos h hr hbase hap hl hl2 hrn n (by omega) hm hf hq hb h5 h4 hx
  rw [if_neg h3]
  exact do_else h hr hbase hap hl hl2 hrn k n h0 h1 h2 h3
end Go.Proofs.Ytclhlgeicfhdiaa
