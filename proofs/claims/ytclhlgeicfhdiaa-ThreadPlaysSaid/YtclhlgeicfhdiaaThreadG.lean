/- Threads: the walks of Handle, Noted, Runs, New. -/
import Derived.Test.YtclhlgeicfhdiaaThreadC
namespace Go.Proofs.Ytclhlgeicfhdiaa
set_option linter.unusedVariables false
set_option linter.unusedSimpArgs false
open Go.RowKit

def hAt (l : List Int) (n : Int) : Int := if 1 ≤ n ∧ n ≤ l.length then (l[(n - 1).toNat]?).getD 0 else 0
set_option maxHeartbeats 4000000 in
set_option maxRecDepth 100000 in
theorem handle_any {w : World} {base p : Nat} {t : Th} {L : TL} (h : TBox w base p t L) (n : Int) (hl : t.hs.length ≤ 100000) :
    Calls Try.prog 14 #[.pointer (some ⟨p, 0, none⟩), .int .i64 n] w fun e w' => e = .returned (.int .u64 (hAt t.hs n)) ∧ w = w' := by
  have k := h.c12
  by_cases h1 : n < 1
  · have e : hAt t.hs n = 0 := if_neg (by omega)
    rw [e]
    clear h e
    go_enter Try.func14, Try.ntmps14
    go_wp2
    go_ret
    exact ⟨rfl, rfl⟩
  · by_cases h2 : (t.hs.length : Int) < n
    · have e : hAt t.hs n = 0 := if_neg (by omega)
      rw [e]
      clear h e
      generalize t.hs.length = m at *
      go_enter Try.func14, Try.ntmps14
      go_wp2
      go_ret
      exact ⟨rfl, rfl⟩
    · obtain ⟨j, rfl⟩ : ∃ j : Nat, n = (j : Int) + 1 := ⟨(n - 1).toNat, by omega⟩
      obtain ⟨g, hA, hg1, hg2, _, hc⟩ := own_form1 h.hs (by omega)
      obtain ⟨x, hx⟩ : ∃ x, t.hs[j]? = some x := ⟨_, List.getElem?_eq_getElem (by omega)⟩
      have c := hc j (uc x) (by simp [hx])
      have e : hAt t.hs ((j : Int) + 1) = x := by
        unfold hAt
        rw [if_pos (by omega), show ((j : Int) + 1 - 1).toNat = j by omega, hx]
        rfl
      rw [e]
      rw [hA] at k
      have b0 : (0 : Int) ≤ (j : Int) := by omega
      have b1 : (j : Int) < (t.hs.length : Int) := by omega
      unfold uc at c
      clear h e hc hA hx
      generalize t.hs.length = m at *
      go_enter Try.func14, Try.ntmps14
      go_wp2
      go_ret
      exact ⟨rfl, rfl⟩
set_option maxHeartbeats 4000000 in
set_option maxRecDepth 100000 in
theorem index_any {w : World} {A : Option Addr} {n c : Nat} {l : List Int} (h : Sl us w A n c l) (x : Int) (hn : n ≤ 1000000) :
    Calls Try.prog 23 #[.slice A n c, .int .u64 x] w fun e w' => (∃ r : Int, e = .returned (.int .i64 r) ∧ (x ∈ l ↔ 0 ≤ r)) ∧ w = w' := by
  go_enter Try.func23, Try.ntmps23
  go_wp2
  go_loopg [8] n (fun gk i wr => ∃ (k : Nat), k + gk = n ∧ i = .int .i64 k ∧ Hid (∀ y, y ∈ l.take k → y ≠ x) ∧ wr = w)
  case atStart => exact ⟨0, by omega, rfl, fun y hy => by simp at hy, rfl⟩
  case round =>
    obtain ⟨k, hk, rfl, hno, rfl⟩ := hrel
    by_cases hlt : k < n
    · obtain ⟨b, o, rfl, _, hc⟩ := h.base us_len (by decide) (by omega)
      obtain ⟨y, hy⟩ : ∃ y, l[k]? = some y := ⟨_, List.getElem?_eq_getElem (by rw [h.len]; exact hlt)⟩
      have c0 : wr.cell? ⟨b, o + k, none⟩ = some (.int .u64 y) := by have h0 := hc k y 0 _ hy rfl; simpa using h0
      have b0 : (0 : Int) ≤ (k : Int) := by omega
      have b1 : (k : Int) < (n : Int) := by omega
      have hst : l.take (k + 1) = l.take k ++ [y] := by rw [List.take_add_one, hy]; rfl
      have HS := Lib.hid hst
      have HY := Lib.hid (List.mem_of_getElem? hy)
      clear hc hy h hst
      by_cases hxy : x = y
      · have t0 : (x == y) = true := by simp [hxy]
        have HX := Lib.hid hxy
        clear hxy
        go_wp2
        go_ret
        exact ⟨⟨_, rfl, ⟨fun _ => by omega, fun _ => by rw [HX.out]; exact HY.out⟩⟩, rfl⟩
      · have t0 : (x == y) = false := by simpa using hxy
        have HX := Lib.hid hxy
        clear hxy
        go_wp2
        go_roundg (gk - 1)
        case measure => omega
        case rel => exact ⟨k + 1, by omega, by go_num, by rw [Hid, HS.out]; intro z hz; rcases List.mem_append.1 hz with hz | hz; exact hno.out z hz; (rw [List.mem_singleton.1 hz]; exact fun e => HX.out e.symm), rfl⟩
    · have hge : ¬ ((k : Int) < (n : Int)) := by omega
      have HE : Hid (x ∉ l) := fun hx => hno.out x (by rw [List.take_of_length_le (by rw [h.len]; omega)]; exact hx) rfl
      clear h
      go_wp2
      go_ret
      exact ⟨⟨_, rfl, ⟨fun q => absurd q HE.out, fun q => by omega⟩⟩, rfl⟩
set_option maxHeartbeats 4000000 in
set_option maxRecDepth 100000 in
theorem contains_any {w : World} {A : Option Addr} {n c : Nat} {l : List Int} (h : Sl us w A n c l) (x : Int) (hn : n ≤ 1000000) :
    Calls Try.prog 22 #[.slice A n c, .int .u64 x] w fun e w' => e = .returned (.bool (decide (x ∈ l))) ∧ w = w' := by
  have hi := index_any h x hn
  clear h
  by_cases hx : x ∈ l
  · rw [decide_eq_true hx]
    go_enter Try.func22, Try.ntmps22
    go_wp2_with (go_at_call 23; refine hi.mono ?_; rintro e w1 ⟨⟨r, rfl, hr⟩, rfl⟩; have h0 := hr.1 hx; clear hr)
    go_ret
    exact ⟨rfl, rfl⟩
  · rw [decide_eq_false hx]
    go_enter Try.func22, Try.ntmps22
    go_wp2_with (go_at_call 23; refine hi.mono ?_; rintro e w1 ⟨⟨r, rfl, hr⟩, rfl⟩; have h0 : decide (0 ≤ r) = false := decide_eq_false fun q => hx (hr.2 q); clear hr)
    go_ret
    exact ⟨rfl, rfl⟩
set_option maxHeartbeats 4000000 in
set_option maxRecDepth 100000 in
theorem noted_any {w : World} {base p : Nat} {t : Th} {L : TL} (h : TBox w base p t L) (x : Int) (hl : t.hs.length ≤ 100000) :
    Calls Try.prog 19 #[.pointer (some ⟨p, 0, none⟩), .int .u64 x] w fun e w' => e = .returned (.bool (x != 0 && decide (x ∈ t.hs))) ∧ w = w' := by
  have k := h.c12
  have hs : Sl us w L.B t.hs.length L.d t.hs := Sl.of_own us_len (by decide) (by rw [us_map]; exact h.hs)
  have hc := contains_any hs x (by omega)
  clear h hs
  by_cases h0 : x = 0
  · have t0 : (x != 0) = false := by simp [h0]
    rw [t0, Bool.false_and]
    clear hc h0
    go_enter Try.func19, Try.ntmps19
    go_wp2
    go_ret
    exact ⟨rfl, rfl⟩
  · have t0 : (x != 0) = true := by simpa using h0
    rw [t0, Bool.true_and]
    generalize decide (x ∈ t.hs) = q at *
    clear h0
    go_enter Try.func19, Try.ntmps19
    go_wp2_with (go_at_call 22; refine hc.mono ?_; rintro e w1 ⟨rfl, rfl⟩)
    go_ret
    exact ⟨rfl, rfl⟩
set_option maxHeartbeats 4000000 in
set_option maxRecDepth 100000 in
theorem runs_any {w : World} {base p : Nat} {t : Th} {L : TL} (h : TBox w base p t L) :
    Calls Try.prog 20 #[.pointer (some ⟨p, 0, none⟩)] w fun e w' => e = .returned (.bool (!t.st && !t.ki)) ∧ w = w' := by
  have k := h.c9
  have k2 := h.c10
  clear h
  generalize t.st = a at *
  generalize t.ki = b at *
  cases a <;> cases b <;>
  · go_enter Try.func20, Try.ntmps20
    go_wp2
    go_ret
    exact ⟨rfl, rfl⟩
def th0 : Th := ⟨List.replicate 8 0, 0, false, false, [], []⟩
def tl0 : TL := ⟨[], none, 0, none, 0⟩
set_option maxHeartbeats 4000000 in
set_option maxRecDepth 100000 in
theorem new_any (w : World) : Calls Try.prog 8 #[] w fun e w' => e = .returned (.pointer (some ⟨w.heap.size, 0, none⟩)) ∧ TBox w' w.heap.size w.heap.size th0 tl0 ∧ Below w.heap.size w w' := by
  go_enter Try.func8, Try.ntmps8
  go_wp2
  go_ret
  exact ⟨rfl, ⟨Blk.new _ _ _, World.ownsRow_nil _ _ _ _, World.ownsRow_nil _ _ _ _, fun i f hi => by simp [th0] at hi, List.nodup_nil, ⟨Nat.le_refl _, fun q hq => by simp [tl0] at hq⟩, rfl, fun f hf => by simp [th0] at hf⟩, bnew (brefl w) _⟩

theorem handle_nil (n : Int) (w : World) : Calls Try.prog 14 #[.pointer none, .int .i64 n] w fun e w' => e = .returned (.int .u64 0) ∧ w = w' := by
  go_enter Try.func14, Try.ntmps14
  go_wp2
  go_ret
  exact ⟨rfl, rfl⟩

theorem noted_nil (n : Int) (w : World) : Calls Try.prog 19 #[.pointer none, .int .u64 n] w fun e w' => e = .returned (.bool false) ∧ w = w' := by
  go_enter Try.func19, Try.ntmps19
  go_wp2
  go_ret
  exact ⟨rfl, rfl⟩

theorem runs_nil (w : World) : Calls Try.prog 20 #[.pointer none] w fun e w' => e = .returned (.bool false) ∧ w = w' := by
  go_enter Try.func20, Try.ntmps20
  go_wp2
  go_ret
  exact ⟨rfl, rfl⟩

theorem clone_nil (w : World) : Calls Try.prog 18 #[.pointer none] w fun e w' => e = .returned (.pointer none) ∧ w = w' := by
  go_enter Try.func18, Try.ntmps18
  go_wp2
  go_ret
  exact ⟨rfl, rfl⟩

theorem call_nil (n : Int) (A : Option Addr) (m c : Nat) (w : World) : Calls Try.prog 11 #[.pointer none, .int .i64 n, .slice A m c] w fun e w' => e = .returned (.tuple #[]) ∧ w = w' := by
  go_enter Try.func11, Try.ntmps11
  go_wp2
  first | go_end0 | refine bodyPost_ret (results_none rfl _ _ _) rfl ?_
  exact ⟨rfl, rfl⟩

theorem back_nil (A : Option Addr) (m c : Nat) (w : World) : Calls Try.prog 15 #[.pointer none, .slice A m c] w fun e w' => e = .returned (.tuple #[]) ∧ w = w' := by
  go_enter Try.func15, Try.ntmps15
  go_wp2
  first | go_end0 | refine bodyPost_ret (results_none rfl _ _ _) rfl ?_
  exact ⟨rfl, rfl⟩

theorem note_nil (n : Int) (w : World) : Calls Try.prog 12 #[.pointer none, .int .u64 n] w fun e w' => e = .returned (.tuple #[]) ∧ w = w' := by
  go_enter Try.func12, Try.ntmps12
  go_wp2
  first | go_end0 | refine bodyPost_ret (results_none rfl _ _ _) rfl ?_
  exact ⟨rfl, rfl⟩
end Go.Proofs.Ytclhlgeicfhdiaa
