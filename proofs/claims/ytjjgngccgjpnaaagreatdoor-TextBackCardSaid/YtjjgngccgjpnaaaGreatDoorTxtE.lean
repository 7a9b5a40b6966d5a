/- A call's words. -/
import Derived.Test.YtjjgngccgjpnaaaGreatDoorTxtD
namespace Go.Proofs.YtjjgngccgjpnaaaGreatDoor
set_option linter.unusedVariables false
set_option linter.unusedSimpArgs false
open Go.RowKit

theorem utf_lo {k : Nat} (h : k < 128) : Utf8.encode (k : Int) = bstr [UInt8.ofNat k] := by
  unfold Utf8.encode
  have hv : Utf8.valid (k : Int) = true := by unfold Utf8.valid; simp; omega
  simp only [hv, if_true]
  have : (k : Int).toNat = k := by omega
  rw [this, if_pos h]
  rfl
theorem bstr_app (l m : List UInt8) : bstr l ++ bstr m = bstr (l ++ m) := by
  apply ByteArray.ext
  simp [bstr, ByteArray.data_append]
theorem bstr_size (l : List UInt8) : (bstr l).size = l.length := rfl
theorem dec_len {u : Nat} (hu : u < 18446744073709551616) : (Lib.decDigits u).length ≤ 20 := by
  rw [Lib.decDigits_length]
  rcases Nat.eq_zero_or_pos u with rfl | h
  · rw [Lib.nDigits_small (by decide)]; decide
  · have := Lib.numDigits_eq u h hu
    split at this <;> omega
set_option maxHeartbeats 4000000 in
set_option maxRecDepth 100000 in
theorem wbits_lo (u : Nat) (h10 : u < 10) (w : World) : Calls Tryz.prog 53 #[.int .u64 u] w fun e w' => e = .returned (.string (bstr (Lib.decDigits u))) ∧ w = w' := by
  have he : Utf8.encode (48 + (u : Int)) = bstr [UInt8.ofNat (48 + u)] := by have e := utf_lo (k := 48 + u) (by omega); rwa [show ((48 + u : Nat) : Int) = 48 + (u : Int) by omega] at e
  have h10' : (u : Int) < 10 := by omega
  have c1 : IntKind.u64.wrap (48 + (u : Int)) = 48 + (u : Int) := IntWalk.u64_in _ (by omega)
  have c2 : IntKind.u8.wrap (48 + (u : Int)) = ((48 + u : Nat) : Int) := by rw [show 48 + (u : Int) = ((48 + u : Nat) : Int) by omega]; exact IntWalk.u8_in _ (by omega)
  rw [Lib.decDigits_one h10]
  obtain ⟨D, hD⟩ : ∃ D, bstr [UInt8.ofNat (48 + u)] = D := ⟨_, rfl⟩
  rw [hD] at he ⊢
  clear hD
  go_enter Tryz.func53, Tryz.ntmps53
  go_wp2_with fail
  go_ret
  exact ⟨rfl, rfl⟩
set_option maxHeartbeats 4000000 in
set_option maxRecDepth 100000 in
theorem wbits_ref : ∀ (n u : Nat), u ≤ n → u < 18446744073709551616 → ∀ w : World, Calls Tryz.prog 53 #[.int .u64 u] w fun e w' => e = .returned (.string (bstr (Lib.decDigits u))) ∧ w = w' := by
  intro n
  induction n with
  | zero =>
    intro u hn hu w
    exact wbits_lo u (by omega) w
  | succ n ih =>
    intro u hn hu w
    by_cases h10 : u < 10
    · exact wbits_lo u h10 w
    · have h10' : decide ((u : Int) < 10) = false := decide_eq_false (by omega)
      obtain ⟨d, hd⟩ : ∃ d, u % 10 = d := ⟨_, rfl⟩
      obtain ⟨q, hq⟩ : ∃ q, u / 10 = q := ⟨_, rfl⟩
      have hd10 : d < 10 := by omega
      have he : Utf8.encode (48 + (d : Int)) = bstr [UInt8.ofNat (48 + d)] := by have e := utf_lo (k := 48 + d) (by omega); rwa [show ((48 + d : Nat) : Int) = 48 + (d : Int) by omega] at e
      have c0 : (u : Int).tdiv 10 = (q : Int) := by rw [Int.tdiv_eq_ediv_of_nonneg (by omega)]; omega
      have c0' : (u : Int).tmod 10 = (d : Int) := by rw [Int.tmod_eq_emod_of_nonneg (by omega)]; omega
      have cq : IntKind.u64.wrap (q : Int) = (q : Int) := IntWalk.u64_in _ (by omega)
      have cd : IntKind.u64.wrap (d : Int) = (d : Int) := IntWalk.u64_in _ (by omega)
      have c1 : IntKind.u64.wrap (48 + (d : Int)) = 48 + (d : Int) := IntWalk.u64_in _ (by omega)
      have c2 : IntKind.u8.wrap (48 + (d : Int)) = ((48 + d : Nat) : Int) := by rw [show 48 + (d : Int) = ((48 + d : Nat) : Int) by omega]; exact IntWalk.u8_in _ (by omega)
      have hc := Lib.hid (ih q (by omega) (by omega))
      have HE : Hid (bstr (Lib.decDigits q) ++ bstr [UInt8.ofNat (48 + d)] = bstr (Lib.decDigits u)) := by
        rw [Hid, bstr_app, Lib.decDigits.eq_def u, dif_neg h10, hq, hd]
      have z1 : (bstr (Lib.decDigits q)).size ≤ 20 := dec_len (by omega)
      have z2 : (bstr [UInt8.ofNat (48 + d)]).size ≤ 1 := Nat.le_refl _
      obtain ⟨D, hD⟩ : ∃ D, bstr [UInt8.ofNat (48 + d)] = D := ⟨_, rfl⟩
      rw [hD] at he HE z2
      clear hD
      clear ih hd hq
      go_enter Tryz.func53, Tryz.ntmps53
      go_wp2_with (go_at_call 53; refine (hc.out _).mono ?_; rintro e w' ⟨rfl, rfl⟩)
      go_ret
      exact ⟨by rw [← HE.out]; rfl, rfl⟩
theorem r35bits {w : World} (u : Nat) (hu : u < 18446744073709551616) : Calls Tryz.prog 53 #[.int .u64 u] w fun e w' => e = .returned (.string (bstr (Lib.decDigits u))) ∧ w = w' := wbits_ref u u (Nat.le_refl _) hu w
set_option maxHeartbeats 4000000 in
set_option maxRecDepth 100000 in
theorem r01bits {w : World} (n : Int) (hn : I64 n) (hneg : n < 0) : Calls Tryz.prog 85 #[.int .i64 n] w fun e w' => e = .returned (.int .u64 (18446744073709551616 + n)) ∧ w = w' := by
  obtain ⟨h0, h1⟩ := hn
  have t0 : decide (0 ≤ n) = false := decide_eq_false (by omega)
  have w1 : IntKind.i64.wrap (n + 1) = n + 1 := IntWalk.i64_in _ (by omega)
  have w2 : IntKind.i64.wrap (-(n + 1)) = -(n + 1) := IntWalk.i64_in _ (by omega)
  have w3 : IntKind.u64.wrap (-(n + 1)) = -(n + 1) := IntWalk.u64_in _ (by omega)
  have w4 : IntKind.u64.wrap (18446744073709551615 - -(n + 1)) = 18446744073709551616 + n := by
    rw [IntWalk.u64_in _ (by omega)]; omega
  have w5 : IntKind.u64.wrap (18446744073709551615 + (n + 1)) = 18446744073709551616 + n := by
    rw [IntWalk.u64_in _ (by omega)]; omega
  clear hneg
  go_enter Tryz.func85, Tryz.ntmps85
  go_wp2_with fail
  go_ret
  exact ⟨rfl, rfl⟩
set_option maxHeartbeats 4000000 in
set_option maxRecDepth 100000 in
theorem r35num {w : World} (n : Int) (hn : I64 n) : Calls Tryz.prog 52 #[.int .i64 n] w fun e w' => e = .returned (.string (bstr (Lib.itoa n))) ∧ w = w' := by
  by_cases h0 : n < 0
  · obtain ⟨u, hu⟩ : ∃ u : Nat, n = -(u : Int) := ⟨n.natAbs, by omega⟩
    have hu1 : u < 18446744073709551616 := by have := hn.1; omega
    have hc := r01bits (w := w) n hn h0
    have hb := r35bits (w := w) u hu1
    have HE : Hid ((⟨#[45]⟩ : ByteArray) ++ bstr (Lib.decDigits u) = bstr (Lib.itoa n)) := by
      rw [Hid, show (⟨#[45]⟩ : ByteArray) = bstr [45] from rfl, bstr_app, hu, Lib.itoa_neg u (by omega)]; rfl
    have w1 : IntKind.u64.wrap (18446744073709551615 - (18446744073709551616 + n)) = (u : Int) - 1 := by
      rw [IntWalk.u64_in _ (by have := hn.1; omega)]; omega
    have w2 : IntKind.u64.wrap ((u : Int) - 1 + 1) = (u : Int) := by rw [IntWalk.u64_in _ (by omega)]; omega
    have z1 : (bstr (Lib.decDigits u)).size ≤ 20 := dec_len hu1
    clear hu
    go_enter Tryz.func52, Tryz.ntmps52
    go_wp2_with (first | (go_at_call 85; refine hc.mono ?_; rintro e w' ⟨rfl, rfl⟩) | (go_at_call 53; refine hb.mono ?_; rintro e w' ⟨rfl, rfl⟩))
    go_ret
    exact ⟨by rw [← HE.out]; rfl, rfl⟩
  · obtain ⟨u, rfl⟩ : ∃ u : Nat, n = (u : Int) := ⟨n.toNat, by omega⟩
    have hu1 : (u : Int) < 9223372036854775808 := by have := hn.2; omega
    have hb := r35bits (w := w) u (by omega)
    have t0 : decide ((u : Int) < 0) = false := decide_eq_false (by omega)
    have w1 : IntKind.u64.wrap (u : Int) = (u : Int) := IntWalk.u64_in _ (by omega)
    rw [Lib.itoa_nonneg]
    go_enter Tryz.func52, Tryz.ntmps52
    go_wp2_with (go_at_call 53; refine hb.mono ?_; rintro e w' ⟨rfl, rfl⟩)
    go_ret
    exact ⟨rfl, rfl⟩
theorem num_any {w : World} (n : Int) (hn : I64 n) : Calls Tryz.prog 44 #[.int .i64 n] w fun e w' => e = .returned (.string (bstr (Lib.itoa n))) ∧ w = w' := by
  go_enter Tryz.func44, Tryz.ntmps44
  go_wp2_with (go_at_call 52; refine (r35num n hn).mono ?_; rintro e w' ⟨rfl, rfl⟩)
  go_ret
  exact ⟨rfl, rfl⟩
/-- The operations' words. -/
def opL : List ByteArray := [⟨#[112, 117, 116]⟩, ⟨#[103, 101, 116]⟩, ⟨#[100, 101, 108]⟩, ⟨#[115, 116, 111, 114, 101]⟩, ⟨#[102, 101, 116, 99, 104]⟩, ⟨#[100, 114, 111, 112]⟩, ⟨#[112, 117, 115, 104]⟩, ⟨#[112, 111, 112]⟩, ⟨#[112, 101, 101, 107]⟩, ⟨#[110, 101, 119]⟩, ⟨#[114, 101, 97, 100]⟩, ⟨#[102, 114, 101, 101]⟩, ⟨#[116, 101, 110, 100]⟩]
def wordS (n : Int) : ByteArray := if 0 ≤ n ∧ n ≤ 12 then opL.getD n.toNat ⟨#[]⟩ else ⟨#[]⟩
theorem wordS_len (n : Int) : (wordS n).data.toList.length ≤ 6 := by
  unfold wordS
  split
  · rename_i h
    obtain ⟨k, rfl⟩ : ∃ k : Nat, n = k := ⟨n.toNat, by omega⟩
    rcases (by omega : k = 0 ∨ k = 1 ∨ k = 2 ∨ k = 3 ∨ k = 4 ∨ k = 5 ∨ k = 6 ∨ k = 7 ∨ k = 8 ∨ k = 9 ∨ k = 10 ∨ k = 11 ∨ k = 12) with rfl | rfl | rfl | rfl | rfl | rfl | rfl | rfl | rfl | rfl | rfl | rfl | rfl <;> decide
  · decide
def W13 : Array Value := #[.string ⟨#[112, 117, 116]⟩, .string ⟨#[103, 101, 116]⟩, .string ⟨#[100, 101, 108]⟩, .string ⟨#[115, 116, 111, 114, 101]⟩, .string ⟨#[102, 101, 116, 99, 104]⟩, .string ⟨#[100, 114, 111, 112]⟩, .string ⟨#[112, 117, 115, 104]⟩, .string ⟨#[112, 111, 112]⟩, .string ⟨#[112, 101, 101, 107]⟩, .string ⟨#[110, 101, 119]⟩, .string ⟨#[114, 101, 97, 100]⟩, .string ⟨#[102, 114, 101, 101]⟩, .string ⟨#[116, 101, 110, 100]⟩]
theorem cwords_any {w : World} : Calls Tryz.prog 83 #[] w fun e w' => e = .returned (.agg W13) ∧ Below w.heap.size w w' := by
  go_enter Tryz.func83, Tryz.ntmps83
  go_wp2_with fail
  exact bodyPost_ret (v := .agg W13) (results_cell_row rfl _ _ w.heap.size 144 _ _ _ rfl (Blk.new w 144 W13) Tryz.underlying144 rfl (by kernel_rfl)) rfl ⟨rfl, bnew (brefl w) _⟩
theorem callin_any {w : World} (n : Int) : Calls Tryz.prog 82 #[.int .i64 n, .int .i64 0, .int .i64 12] w fun e w' => e = .returned (.bool (decide (0 ≤ n ∧ n ≤ 12))) ∧ w = w' := by
  by_cases h0 : 0 ≤ n
  · by_cases h1 : n ≤ 12
    · rw [decide_eq_true ⟨h0, h1⟩]
      go_enter Tryz.func82, Tryz.ntmps82
      go_wp2_with fail
      go_ret
      exact ⟨rfl, rfl⟩
    · rw [decide_eq_false (fun q => h1 q.2)]
      have h1' : decide (n ≤ 12) = false := decide_eq_false h1
      go_enter Tryz.func82, Tryz.ntmps82
      go_wp2_with fail
      go_ret
      exact ⟨rfl, rfl⟩
  · rw [decide_eq_false (fun q => h0 q.1)]
    have h1' : decide (0 ≤ n) = false := decide_eq_false h0
    go_enter Tryz.func82, Tryz.ntmps82
    go_wp2_with fail
    go_ret
    exact ⟨rfl, rfl⟩
set_option maxHeartbeats 4000000 in
set_option maxRecDepth 100000 in
theorem cword_any {w : World} (n : Int) : Calls Tryz.prog 49 #[.int .i64 n] w fun e w' => e = .returned (.string (wordS n)) ∧ Below w.heap.size w w' := by
  have hc := callin_any (w := w) n
  by_cases h : 0 ≤ n ∧ n ≤ 12
  · rw [decide_eq_true h] at hc
    obtain ⟨k, rfl⟩ : ∃ k : Nat, n = k := ⟨n.toNat, by omega⟩
    have hix : ∀ w : World, (Instr.index 144 (.agg W13) (.int .i64 (k : Int))).run Tryz.prog w = .ok (.string (wordS (k : Int))) w := fun w => by
      rcases (by omega : k = 0 ∨ k = 1 ∨ k = 2 ∨ k = 3 ∨ k = 4 ∨ k = 5 ∨ k = 6 ∨ k = 7 ∨ k = 8 ∨ k = 9 ∨ k = 10 ∨ k = 11 ∨ k = 12) with rfl | rfl | rfl | rfl | rfl | rfl | rfl | rfl | rfl | rfl | rfl | rfl | rfl <;> kernel_rfl
    have hw := cwords_any (w := w)
    obtain ⟨S, hS⟩ : ∃ S, wordS (k : Int) = S := ⟨_, rfl⟩
    obtain ⟨V, hV⟩ : ∃ V, W13 = V := ⟨_, rfl⟩
    rw [hV] at hw
    rw [hS, hV] at hix
    rw [hS]
    clear hS hV
    go_enter Tryz.func49, Tryz.ntmps49
    go_wp2_with (first | (go_at_call 82; refine hc.mono ?_; rintro e w' ⟨rfl, rfl⟩) | (go_at_call 83; refine hw.mono ?_; rintro e w' ⟨rfl, hb⟩))
    go_ret
    exact ⟨rfl, hb⟩
  · rw [decide_eq_false h] at hc
    have hs : wordS n = ⟨#[]⟩ := by rw [wordS, if_neg h]
    rw [hs]
    go_enter Tryz.func49, Tryz.ntmps49
    go_wp2_with (go_at_call 82; refine hc.mono ?_; rintro e w' ⟨rfl, rfl⟩)
    go_ret
    exact ⟨rfl, brefl _⟩
set_option maxHeartbeats 4000000 in
set_option maxRecDepth 100000 in
theorem rword_any {w : World} (n : Int) (hn : I64 n) : Calls Tryz.prog 51 #[.int .i64 n] w fun e w' => e = .returned (.string (wordS n)) ∧ Below w.heap.size w w' := by
  by_cases h0 : n < 0
  · have hs : wordS n = ⟨#[]⟩ := by rw [wordS, if_neg (by omega)]
    rw [hs]
    go_enter Tryz.func51, Tryz.ntmps51
    go_wp2_with fail
    go_ret
    exact ⟨rfl, bnew (brefl w) _⟩
  · have t0 : decide (n < 0) = false := decide_eq_false h0
    by_cases h1 : 13 ≤ n
    · have hs : wordS n = ⟨#[]⟩ := by rw [wordS, if_neg (by omega)]
      rw [hs]
      go_enter Tryz.func51, Tryz.ntmps51
      go_wp2_with fail
      go_ret
      exact ⟨rfl, bnew (brefl w) _⟩
    · have t1 : decide (13 ≤ n) = false := decide_eq_false h1
      obtain ⟨k, rfl⟩ : ∃ k : Nat, n = k := ⟨n.toNat, by omega⟩
      have i0 : (0 : Int) ≤ (k : Int) := by omega
      have i1 : (k : Int) < 13 := by omega
      obtain ⟨W1, hW1, hk, hb⟩ : ∃ W1, w.alloc (.cells W13 9) = W1 ∧ W1.cell? ⟨w.heap.size, k, none⟩ = some (.string (wordS k)) ∧ Below w.heap.size w W1 := ⟨_, rfl, by
        rw [(Blk.new w 9 W13).cell]
        rcases (by omega : k = 0 ∨ k = 1 ∨ k = 2 ∨ k = 3 ∨ k = 4 ∨ k = 5 ∨ k = 6 ∨ k = 7 ∨ k = 8 ∨ k = 9 ∨ k = 10 ∨ k = 11 ∨ k = 12) with rfl | rfl | rfl | rfl | rfl | rfl | rfl | rfl | rfl | rfl | rfl | rfl | rfl <;> rfl, bnew (brefl w) _⟩
      have hz := block_lt_of_cell hk
      go_enter Tryz.func51, Tryz.ntmps51
      go_upto_region 2 with fail
      rw [show w.alloc (.cells #[.string ⟨#[112, 117, 116]⟩, .string ⟨#[103, 101, 116]⟩, .string ⟨#[100, 101, 108]⟩, .string ⟨#[115, 116, 111, 114, 101]⟩, .string ⟨#[102, 101, 116, 99, 104]⟩, .string ⟨#[100, 114, 111, 112]⟩, .string ⟨#[112, 117, 115, 104]⟩, .string ⟨#[112, 111, 112]⟩, .string ⟨#[112, 101, 101, 107]⟩, .string ⟨#[110, 101, 119]⟩, .string ⟨#[114, 101, 97, 100]⟩, .string ⟨#[102, 114, 101, 101]⟩, .string ⟨#[116, 101, 110, 100]⟩] 9) = W1 from hW1]
      clear hW1
      obtain ⟨S, hS⟩ : ∃ S, wordS (k : Int) = S := ⟨_, rfl⟩
      rw [hS] at hk
      have hfin : Hid (Value.string S = Value.string (wordS (k : Int))) := by rw [Hid, hS]
      clear hS
      go_wp2_with fail
      go_ret
      exact ⟨by rw [← hfin.out]; rfl, hb⟩
end Go.Proofs.YtjjgngccgjpnaaaGreatDoor
