/- Rows: what puts in and takes out leaves; the chapter's example. -/
import Derived.Test.YtklpnjenddkmaaaRowI
namespace Go.Proofs.Ytklpnjenddkmaaa
set_option linter.unusedVariables false
set_option linter.unusedSimpArgs false
open Go.RowKit

def dropL (l : List RV) (key : Int) : List RV := if thr l key = true then delL l (idx l key) else l
def rowL (l : List RV) (key : Int) : RV := if thr l key = true then l.getD (idx l key) ⟨0, 0, 0⟩ else ⟨0, 0, 0⟩
theorem thr_at {l : List RV} {key : Int} (h : thr l key = true) : l[idx l key]? = some (l.getD (idx l key) ⟨0, 0, 0⟩) := by
  unfold thr at h
  rw [List.getD_eq_getElem?_getD]
  cases hx : l[idx l key]? with
  | none => rw [hx] at h; cases h
  | some r => rfl
theorem drop_any {w : World} {A : Option Addr} {n c : Nat} {l : List RV} (h : Sl rvc w A n c l) (hn : n ≤ 1000000) (key : Int) :
    Calls Try.prog 13 #[.slice A n c, .int .i64 key] w fun e w' => ∃ A' n' c', e = .returned (.tuple #[.slice A' n' c', .agg #[.int .i64 (rowL l key).k, .int .u64 (rowL l key).a, .int .u64 (rowL l key).b], .bool (thr l key)]) ∧ Sl rvc w' A' n' c' (dropL l key) ∧ n' ≤ n ∧ Below w.heap.size w w' := by
  unfold dropL rowL
  cases ht : thr l key with
  | false => exact (drop_no h hn key ht).mono fun e w' ⟨h1, h2⟩ => ⟨A, n, c, h1, by simpa using h.below h2, Nat.le_refl _, h2⟩
  | true => exact (drop_yes h hn key ht (thr_at ht)).mono fun e w' ⟨A', c', h1, h2, h3⟩ => ⟨A', n - 1, c', h1, by simpa using h2, by omega, h3⟩
theorem rdrop_any {w : World} {A : Option Addr} {n c : Nat} {l : List RV} (h : Sl rvc w A n c l) (hn : n ≤ 1000000) (key : Int) :
    Calls Try.prog 14 #[.slice A n c, .int .i64 key] w fun e w' => ∃ A' n' c', e = .returned (.tuple #[.slice A' n' c', .agg #[.int .i64 (rowL l key).k, .int .u64 (rowL l key).a, .int .u64 (rowL l key).b], .bool (thr l key)]) ∧ Sl rvc w' A' n' c' (dropL l key) ∧ n' ≤ n ∧ Below w.heap.size w w' := by
  unfold dropL rowL
  cases ht : thr l key with
  | false => exact (rdrop_no h hn key ht).mono fun e w' ⟨h1, h2⟩ => ⟨A, n, c, h1, by simpa using h.below h2, Nat.le_refl _, h2⟩
  | true => exact (rdrop_yes h hn key ht (thr_at ht)).mono fun e w' ⟨A', c', h1, h2, h3⟩ => ⟨A', n - 1, c', h1, by simpa using h2, by omega, h3⟩
set_option maxHeartbeats 4000000 in
set_option maxRecDepth 100000 in
theorem lives10 (w : World) : Calls Try.prog 6 #[] w fun e w' => e = .returned (.bool true) ∧ Below w.heap.size w w' := by
  have h0 : Sl rvc (w.alloc (.cells #[.int .i64 3, .int .u64 0, .int .u64 0, .int .i64 9, .int .u64 0, .int .u64 0] 29)) (some ⟨w.heap.size, 0, none⟩) 2 2 [⟨3, 0, 0⟩, ⟨9, 0, 0⟩] := Sl.of_own rvc_len (by decide) (Blk.own (Blk.new w 29 #[.int .i64 3, .int .u64 0, .int .u64 0, .int .i64 9, .int .u64 0, .int .u64 0]) (base := 0) (Nat.zero_le _) (by decide) (by decide) rfl rfl)
  have hcall := put_yes h0 (by decide) ⟨5, 0, 0⟩ (by decide)
  go_enter Try.func6, Try.ntmps6
  go_upto_region 2 with (go_at_call 11; refine hcall.mono ?_; rintro e w1 ⟨A', c', rfl, S1, hb1⟩)
  obtain ⟨b, o, rfl, _, hc⟩ := S1.base rvc_len (by decide) (by decide)
  have c1 : w1.cell? ⟨b, o + 3, none⟩ = some (.int .i64 5) := hc 1 ⟨5, 0, 0⟩ 0 _ rfl rfl
  clear hc S1 hcall h0
  go_wp2
  go_ret
  exact ⟨rfl, bnext (bnew (brefl w) _) hb1⟩
theorem ris_iff (l : List RV) : risB l = true ↔ ∀ j x y, l[j]? = some x → l[j + 1]? = some y → x.k < y.k := by
  constructor
  · intro h j x y hx hy
    by_cases hxy : x.k < y.k
    · exact hxy
    · rw [ris_no hx hy (by omega)] at h
      cases h
  · exact ris_yes
theorem ris_step {l : List RV} {j : Nat} {x y : RV} (hx : l[j]? = some x) (hy : l[j + 1]? = some y) : risB (l.take (j + 1 + 1)) = (risB (l.take (j + 1)) && decide (x.k < y.k)) := by
  rw [Bool.eq_iff_iff, Bool.and_eq_true, ris_iff, ris_iff, decide_eq_true_iff]
  have g : ∀ (m i : Nat), i < m → (l.take m)[i]? = l[i]? := fun m i hi => by rw [List.getElem?_take, if_pos hi]
  have g' : ∀ (m i : Nat) (u : RV), (l.take m)[i]? = some u → i < m ∧ l[i]? = some u := fun m i u hu => by
    rw [List.getElem?_take] at hu
    split at hu
    · exact ⟨by assumption, hu⟩
    · cases hu
  constructor
  · intro h
    refine ⟨fun i u v hu hv => ?_, h j x y (by rw [g _ _ (by omega)]; exact hx) (by rw [g _ _ (by omega)]; exact hy)⟩
    obtain ⟨_, hu⟩ := g' _ _ _ hu
    obtain ⟨hi, hv⟩ := g' _ _ _ hv
    exact h i u v (by rw [g _ _ (by omega)]; exact hu) (by rw [g _ _ (by omega)]; exact hv)
  · rintro ⟨h1, h2⟩ i u v hu hv
    obtain ⟨_, hu2⟩ := g' _ _ _ hu
    obtain ⟨hi, hv2⟩ := g' _ _ _ hv
    by_cases hij : i = j
    · subst hij
      have e1 : x = u := Option.some.inj (hx.symm.trans hu2)
      have e2 : y = v := Option.some.inj (hy.symm.trans hv2)
      rw [← e1, ← e2]
      exact h2
    · exact h1 i u v (by rw [g _ _ (by omega)]; exact hu2) (by rw [g _ _ (by omega)]; exact hv2)
theorem ris_one (l : List RV) : risB (l.take 1) = true := by
  rw [ris_iff]
  intro j x y _ hy
  have := (List.getElem?_eq_some_iff.1 hy).1
  rw [List.length_take] at this
  omega
end Go.Proofs.Ytklpnjenddkmaaa
