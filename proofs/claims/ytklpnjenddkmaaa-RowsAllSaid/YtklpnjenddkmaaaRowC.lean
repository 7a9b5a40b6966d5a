/- Rows: where a key is. -/
import Derived.Test.YtklpnjenddkmaaaRowB
namespace Go.Proofs.Ytklpnjenddkmaaa
set_option linter.unusedVariables false
set_option linter.unusedSimpArgs false
open Go.RowKit

attribute [local go_sem] Oper.semAt_some
structure AtI (w : World) (N k : Nat) (W : World) : Prop where
  le : k ≤ N
  b0 : Blk W w.heap.size 3 #[.int .i64 k]
  bel : Below w.heap.size w W
theorem AtI.low {w : World} {N k B : Nat} (hB : w.heap.size + 3 ≤ B) : Low B (AtI w N k) := fun A C ha hb => ⟨ha.le, ha.b0.below hb (by omega), ha.bel.trans (hb.mono (by omega))⟩
def AtA (w : World) (A : Option Addr) (n c : Nat) (key : Int) (a' : Act) : Prop := ∃ e : RV, a' = { tmps := #[.slice A n c, .int .i64 key, undef, undef, .int .i64 0, .bool false, .pointer (some ⟨w.heap.size, 0, none⟩), undef, .slice A n c, .int .i64 key, .func (.func 26) #[] #[.pointer (some ⟨w.heap.size + 1, 0, none⟩), .pointer (some ⟨w.heap.size + 1 + 1, 0, none⟩)], .agg #[.int .i64 e.k, .int .u64 e.a, .int .u64 e.b], undef, undef, undef, undef, undef, undef, undef, undef, undef, undef, undef, undef, undef, undef, undef, undef, undef, undef], defers := [] }
set_option maxHeartbeats 4000000 in
set_option maxRecDepth 100000 in
theorem at_any {w : World} {A : Option Addr} {n c : Nat} {l : List RV} (h : Sl rvc w A n c l) (hn : n ≤ 1000000) (key : Int) : Calls Try.prog 15 #[.slice A n c, .int .i64 key] w fun r w' => r = .returned (.tuple #[.int .i64 (idx l key : Nat), .bool (thr l key)]) ∧ Below w.heap.size w w' := by
  have hlen := h.len
  have hil := idx_le key l
  have hbw : 0 < n → ∀ ad, A = some ad → ad.block < w.heap.size := fun h0 => h.rd.lt (by intro e; have := congrArg List.length e; rw [flat_len rvc_len] at this; simp at this; omega)
  have hA := h
  refine (callsIn_wide (n := 10)).1 ?_
  refine callsIn_of_wp_marks Try.func15 rfl trivial ?_ rfl
  simp only [Try.ntmps15, List.size_toArray, List.length_cons, List.length_nil, Nat.reduceAdd, Nat.reduceSub, Array.replicate_succ, Array.replicate_zero, List.push_toArray, List.append_toArray, List.nil_append, List.cons_append]
  gi_wp2_with (refine ⟨trivial, ?_⟩; gi_at_call 23; refine (callsIn_wide.2 (tail_any _ _ _ _)).mono ?_; rintro e w' ⟨rfl, rfl⟩)
  obtain ⟨W0, hW0, hz0, i0, h0, bx, bk, kb⟩ : ∃ W0, ((w.alloc (.cells #[.int .i64 0] 3)).alloc (.cells #[.slice A n c] 22)).alloc (.cells #[.int .i64 key] 2) = W0 ∧ W0.heap.size = w.heap.size + 3 ∧ AtI w (n - idx l key) 0 W0 ∧ Sl rvc W0 A n c l ∧ Blk W0 (w.heap.size + 1) 22 #[.slice A n c] ∧ Blk W0 (w.heap.size + 1 + 1) 2 #[.int .i64 key] ∧ Below w.heap.size w W0 := by
    refine ⟨_, rfl, by simp, ⟨Nat.zero_le _, ((Blk.new _ _ _).alloc _).alloc _, bnew (bnew (bnew (brefl w) _) _) _⟩, ((h.alloc _).alloc _).alloc _, ?_, ?_, bnew (bnew (bnew (brefl w) _) _) _⟩
    · have := (Blk.new (w.alloc (.cells #[.int .i64 0] 3)) 22 #[.slice A n c]).alloc (.cells #[.int .i64 key] 2)
      simpa using this
    · have := Blk.new ((w.alloc (.cells #[.int .i64 0] 3)).alloc (.cells #[.slice A n c] 22)) 2 #[.int .i64 key]
      simpa using this
  rw [hW0]
  clear hW0 h
  refine wpIn_rounds rfl (by omega) (gf := 26) (lb := #[.pointer (some ⟨w.heap.size + 1, 0, none⟩), .pointer (some ⟨w.heap.size + 1 + 1, 0, none⟩)]) rfl trivial (enters_of Try.func26 (by kernel_rfl) rfl)
    (tail_rounds (Z := fun b => b = w.heap.size) h0 (by omega) bx bk (by omega) (by omega) (fun h0 ad hA => by have := hbw h0 ad hA; omega) (by omega) _) (fun k => encR_size l _ k)
    (AtI w (n - idx l key)) (fun _ => False) (fun k => AtI.low (by omega)) (fun _ _ h _ => h) i0 (fun k a' W => AtA w A n c key a') (fun k a' W o h => h) ?assign ?body ?done ?stop
  case assign =>
    rintro L k W K' hsz hi hk hK'
    obtain ⟨e, he⟩ : ∃ e, l[idx l key + k]? = some e := ⟨l[idx l key + k]'(by omega), List.getElem?_eq_getElem (i := idx l key + k) _⟩
    rw [encR_some he]
    simp only [rvc]
    gi_wp2
    exact hK' _ _ (Below.refl _ _) ⟨e, by simp⟩
  case body =>
    rintro L k a' W hi hk ⟨e, rfl⟩
    have c0 : W.cell? ⟨w.heap.size, 0, none⟩ = some (.int .i64 k) := hi.b0.cell 0
    have f0 := hi.b0.frozen 0
    have z0 := hi.b0.lt
    have HI := hi
    have k0 : (0 : Int) ≤ (k : Int) := by omega
    have k1 : (k : Int) ≤ 1000000 := by omega
    clear hi
    gi_wp2
    exact ⟨(KeepsOthers.setCell _ _ _).from _, (Keeps.refl (fun b => b = w.heap.size) W).setCell (p := ⟨w.heap.size, 0, none⟩) (fun _ => rfl) _, by omega, by rw [show ((k + 1 : Nat) : Int) = (k : Int) + 1 from rfl]; exact HI.b0.set_ 0 _, HI.bel.setCell (p := ⟨w.heap.size, 0, none⟩) (Nat.le_refl _) _⟩
  case done =>
    rintro D k W hD he hi hd
    subst he
    have c0 : W.cell? ⟨w.heap.size, 0, none⟩ = some (.int .i64 (n - idx l key : Nat)) := hi.b0.cell 0
    have f0 := hi.b0.frozen 0
    have z0 := hi.b0.lt
    have HB := hi.b0
    have KB := hi.bel
    have hAW := hA.below KB
    clear i0 h0 bx bk kb hi hA
    obtain ⟨i, hi⟩ : ∃ i, idx l key = i := ⟨_, rfl⟩
    obtain ⟨N, hN⟩ : ∃ N, n - i = N := ⟨_, rfl⟩
    rw [hi, hN] at c0
    rw [hi] at hil
    have HI := Lib.hid hi
    have e1 : (n : Int) - (N : Int) = (i : Int) := by omega
    by_cases h0 : N = 0
    · have HT : Hid (thr l key = false) := thr_none (by omega)
      have t1 : decide (0 < N) = false := decide_eq_false (by omega)
      clear h0 hN hi hil hAW hbw
      gi_wp2
      refine wpIn_wide.2 ?_
      go_quiet (fail)
      gi_wp2
      refine ⟨by simp, .inl ⟨_, _, rfl, run_takeDeferred (show (W.drewN nq).heap[D]? = some (.deferred (some [])) from hd), ?_⟩⟩
      refine ⟨.tuple #[.int .i64 i, .bool false], ?_, by rw [HI.out, HT.out], (below_drewN KB nq).trans (belowK_b (w := w) (Nat.le_refl _) _ D _ _ (by omega) (show (W.drewN nq).heap[D]? = some (.deferred (some [])) from hd) rfl rfl)⟩
      simp [results, Try.f15, go_sem]
    · obtain ⟨b, o, rfl, _, hc⟩ := hAW.base rvc_len (by decide) (by omega)
      obtain ⟨x, hx⟩ : ∃ x, l[i]? = some x := ⟨l[i]'(by omega), List.getElem?_eq_getElem (i := i) _⟩
      have ck : W.cell? ⟨b, o + i * 3, none⟩ = some (.int .i64 x.k) := by have h0 := hc i x 0 _ hx rfl; simpa using h0
      have HT : Hid (thr l key = (x.k == key)) := thr_some (by rw [hi]; exact hx)
      have b0 : (0 : Int) ≤ (i : Int) := by omega
      have b1 : (i : Int) < (n : Int) := by omega
      have t1 : 0 < N := by omega
      clear h0 hN hi hil hAW hbw hx hc
      gi_wp2
      refine wpIn_wide.2 ?_
      go_quiet (fail)
      gi_wp2
      refine ⟨by simp, .inl ⟨_, _, rfl, run_takeDeferred (show (W.drewN nq).heap[D]? = some (.deferred (some [])) from hd), ?_⟩⟩
      refine ⟨.tuple #[.int .i64 i, .bool (x.k == key)], ?_, by rw [HI.out, HT.out], (below_drewN KB nq).trans (belowK_b (w := w) (Nat.le_refl _) _ D _ _ (by omega) (show (W.drewN nq).heap[D]? = some (.deferred (some [])) from hd) rfl rfl)⟩
      simp [results, Try.f15, go_sem]
  case stop =>
    rintro D W hD hi hd
    exact hi.elim
end Go.Proofs.Ytklpnjenddkmaaa
