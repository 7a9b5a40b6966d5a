/- Words as numbers. -/
import Derived.Test.YtjjgngccgjpnaaaGreatDoorTxtA
namespace Go.Proofs.YtjjgngccgjpnaaaGreatDoor
set_option linter.unusedVariables false
set_option linter.unusedSimpArgs false
open Go.RowKit

theorem bw_below (w : World) (e : TypeId) (s : ByteArray) : Below w.heap.size w (Lib.bytesWorld w e s) := Lib.bytesWorld_below w e s
def PIntR (w : World) (s : ByteArray) (e : Ending) (w' : World) : Prop := Below w.heap.size w w' ∧ ((∃ v, Lib.parseIntB 64 s.data.toList = .ok v ∧ e = .returned (.tuple #[.int .i64 v, .nilIface])) ∨ ((∀ v, Lib.parseIntB 64 s.data.toList ≠ .ok v) ∧ ∃ v N, e = .returned (.tuple #[.int .i64 v, .iface 176 (.pointer (some ⟨N, 0, none⟩))])))
theorem pint_any {w : World} (s : ByteArray) (hl : s.size ≤ 1000000) (h : LV w) : Calls Tryz.prog 45 #[.string s, .int .i64 10, .int .i64 64] w (PIntR w s) := by
  obtain ⟨tp, p, hs⟩ := h.s
  obtain ⟨tr, q, hr⟩ := h.r
  rcases hp : Lib.parseIntB 64 s.data.toList with v | _ | _
  ·
    exact (Tryz.strconv_ParseInt_10_at64_ok s (by omega) v hp w).mono fun e w' ⟨a, b⟩ => ⟨by
      rcases b with rfl | ⟨t, rfl⟩
      · exact brefl _
      · exact bw_below _ _ _, .inl ⟨v, hp, a⟩⟩
  · exact (Tryz.strconv_ParseInt_10_at64_syntax s (by omega) hp _ w hs (.inr ⟨_, _, rfl⟩)).mono fun e w' ⟨N, a, _, _, b⟩ => ⟨b, .inr ⟨fun v q => (by rw [hp] at q; cases q), _, N, a⟩⟩
  · exact (Tryz.strconv_ParseInt_10_at64_range s (by omega) hp _ w hr (.inr ⟨_, _, rfl⟩)).mono fun e w' ⟨N, a, _, _, b⟩ => ⟨b, .inr ⟨fun v q => (by rw [hp] at q; cases q), _, N, a⟩⟩
def PUintR (w : World) (s : ByteArray) (e : Ending) (w' : World) : Prop := Below w.heap.size w w' ∧ ((∃ u : Nat, Lib.parseUintB 64 s.data.toList = .ok u ∧ e = .returned (.tuple #[.int .u64 u, .nilIface])) ∨ ((∀ u, Lib.parseUintB 64 s.data.toList ≠ .ok u) ∧ ∃ v N, e = .returned (.tuple #[.int .u64 v, .iface 176 (.pointer (some ⟨N, 0, none⟩))])))
theorem puint_any {w : World} (s : ByteArray) (hl : s.size ≤ 1000000) (h : LV w) : Calls Tryz.prog 47 #[.string s, .int .i64 10, .int .i64 64] w (PUintR w s) := by
  obtain ⟨tp, p, hs⟩ := h.s
  obtain ⟨tr, q, hr⟩ := h.r
  rcases hp : Lib.parseUintB 64 s.data.toList with u | _ | _
  ·
    exact (Tryz.strconv_ParseUint_10_at64_ok s (by omega) u hp w).mono fun e w' ⟨a, b⟩ => ⟨by
      rcases b with rfl | rfl
      · exact brefl _
      · exact bw_below _ _ _, .inl ⟨u, hp, a⟩⟩
  · exact (Tryz.strconv_ParseUint_10_at64_syntax s (by omega) hp _ w hs (.inr ⟨_, _, rfl⟩)).mono fun e w' ⟨N, a, _, _, b⟩ => ⟨b, .inr ⟨fun v q => (by rw [hp] at q; cases q), _, N, a⟩⟩
  · exact (Tryz.strconv_ParseUint_10_at64_range s (by omega) hp _ w hr (.inr ⟨_, _, rfl⟩)).mono fun e w' ⟨N, a, _, _, b⟩ => ⟨b, .inr ⟨fun v q => (by rw [hp] at q; cases q), _, N, a⟩⟩
/-- A word's number, with a sign; without one. -/
def numI (l : List UInt8) : Option Int := match Lib.parseIntB 64 l with
  | .ok v => if Lib.itoa v = l then some v else none
  | _ => none
def numU (l : List UInt8) : Option Nat := match Lib.parseUintB 64 l with
  | .ok u => if Lib.decDigits u = l then some u else none
  | _ => none
theorem numI_i {l : List UInt8} {v : Int} (h : numI l = some v) : I64 v := by
  unfold numI at h
  rcases hp : Lib.parseIntB 64 l with u | _ | _
  ·
    rw [hp] at h
    simp only at h
    split at h
    · injection h with h
      subst h
      have := Lib.parseIntB_bounds hp
      have e : ((2 ^ (64 - 1) : Nat) : Int) = 9223372036854775808 := by decide
      rw [e] at this
      unfold I64
      omega
    · cases h
  · rw [hp] at h; cases h
  · rw [hp] at h; cases h
theorem bstr_eq (l : List UInt8) (s : ByteArray) : bstr l = s ↔ l = s.data.toList :=
  ⟨fun h => by rw [← h]; rfl, fun h => by rw [h]; rfl⟩
theorem str_ne {a b : ByteArray} (h : a ≠ b) : (a.toList == b.toList) = false := by
  rw [ByteArray.toList_eq, ByteArray.toList_eq, beq_eq_false_iff_ne]
  intro e
  exact h (by rcases a with ⟨⟨a⟩⟩; rcases b with ⟨⟨b⟩⟩; exact congrArg (fun l => ByteArray.mk ⟨l⟩) e)
def NumR (w : World) (s : ByteArray) (e : Ending) (w' : World) : Prop := Below w.heap.size w w' ∧ e = .returned (.tuple #[.int .i64 ((numI s.data.toList).getD 0), .bool (numI s.data.toList).isSome])
set_option maxHeartbeats 4000000 in
set_option maxRecDepth 100000 in
theorem number_any {w : World} (s : ByteArray) (hl : s.size ≤ 1000000) (h : LV w) : Calls Tryz.prog 16 #[.string s] w (NumR w s) := by
  have hp := pint_any s hl h
  rcases hq : Lib.parseIntB 64 s.data.toList with v | _ | _
  ·
    have hc : Calls Tryz.prog 45 #[.string s, .int .i64 10, .int .i64 64] w fun e w' => Below w.heap.size w w' ∧ e = .returned (.tuple #[.int .i64 v, .nilIface]) := hp.mono fun e w' ⟨a, b⟩ => ⟨a, b.elim (fun ⟨u, x, y⟩ => by rw [hq] at x; cases x; exact y) (fun ⟨x, _⟩ => absurd hq (x v))⟩
    have hv : I64 v := by
      have := Lib.parseIntB_bounds hq
      have e : ((2 ^ (64 - 1) : Nat) : Int) = 9223372036854775808 := by decide
      rw [e] at this
      unfold I64
      omega
    have HF := Lib.hid (fun W (hW : Below w.heap.size w W) => fmt_int v hv (h.below hW))
    clear hp
    by_cases hz : Lib.itoa v = s.data.toList
    · have HN : Hid (numI s.data.toList = some v) := by rw [Hid, numI, hq]; simp only [hz, if_pos]
      have hb : bstr (Lib.itoa v) = s := (bstr_eq _ _).2 hz
      generalize bstr (Lib.itoa v) = SB at *
      subst hb
      clear hz hq
      go_enter Tryz.func16, Tryz.ntmps16
      go_wp2_with (first | (go_at_call 45; refine hc.mono ?_; rintro e w1 ⟨hb1, rfl⟩) | (go_at_call 46; refine (HF.out _ hb1).mono ?_; rintro e w2 ⟨rfl, hb2⟩))
      go_ret2
      exact ⟨bnext hb1 hb2, by rw [HN.out]; rfl⟩
    · have HN : Hid (numI s.data.toList = none) := by rw [Hid, numI, hq]; simp only [hz, if_false]
      have hb : ((bstr (Lib.itoa v)).toList == s.toList) = false := str_ne fun q => hz ((bstr_eq _ _).1 q)
      generalize bstr (Lib.itoa v) = SB at *
      clear hz hq
      go_enter Tryz.func16, Tryz.ntmps16
      go_wp2_with (first | (go_at_call 45; refine hc.mono ?_; rintro e w1 ⟨hb1, rfl⟩) | (go_at_call 46; refine (HF.out _ hb1).mono ?_; rintro e w2 ⟨rfl, hb2⟩))
      go_ret2
      exact ⟨bnext hb1 hb2, by rw [HN.out]; rfl⟩
  ·
    have HN : Hid (numI s.data.toList = none) := by rw [Hid, numI, hq]
    have hc : Calls Tryz.prog 45 #[.string s, .int .i64 10, .int .i64 64] w fun e w' => Below w.heap.size w w' ∧ ∃ v N, e = .returned (.tuple #[.int .i64 v, .iface 176 (.pointer (some ⟨N, 0, none⟩))]) := hp.mono fun e w' ⟨a, b⟩ => ⟨a, b.elim (fun ⟨u, x, y⟩ => by rw [hq] at x; cases x) (fun ⟨_, x⟩ => x)⟩
    clear hp hq
    go_enter Tryz.func16, Tryz.ntmps16
    go_wp2_with (go_at_call 45; refine hc.mono ?_; rintro e w1 ⟨hb1, v, N, rfl⟩)
    go_ret2
    exact ⟨hb1, by rw [HN.out]; rfl⟩
  ·
    have HN : Hid (numI s.data.toList = none) := by rw [Hid, numI, hq]
    have hc : Calls Tryz.prog 45 #[.string s, .int .i64 10, .int .i64 64] w fun e w' => Below w.heap.size w w' ∧ ∃ v N, e = .returned (.tuple #[.int .i64 v, .iface 176 (.pointer (some ⟨N, 0, none⟩))]) := hp.mono fun e w' ⟨a, b⟩ => ⟨a, b.elim (fun ⟨u, x, y⟩ => by rw [hq] at x; cases x) (fun ⟨_, x⟩ => x)⟩
    clear hp hq
    go_enter Tryz.func16, Tryz.ntmps16
    go_wp2_with (go_at_call 45; refine hc.mono ?_; rintro e w1 ⟨hb1, v, N, rfl⟩)
    go_ret2
    exact ⟨hb1, by rw [HN.out]; rfl⟩
def BitR (w : World) (s : ByteArray) (e : Ending) (w' : World) : Prop := Below w.heap.size w w' ∧ e = .returned (.tuple #[.int .u64 (((numU s.data.toList).getD 0 : Nat) : Int), .bool (numU s.data.toList).isSome])
set_option maxHeartbeats 4000000 in
set_option maxRecDepth 100000 in
theorem tbits_any {w : World} (u : Nat) (hu : u < 18446744073709551616) (h : LV w) : Calls Tryz.prog 48 #[.int .u64 u] w fun e w' => e = .returned (.string (bstr (Lib.decDigits u))) ∧ Below w.heap.size w w' := by
  go_enter Tryz.func48, Tryz.ntmps48
  go_wp2_with (go_at_call 81; refine (fmt_uint u hu h).mono ?_; rintro e w' ⟨rfl, hb⟩)
  go_ret
  exact ⟨rfl, hb⟩
theorem parseUintB_lt {l : List UInt8} {u : Nat} (h : Lib.parseUintB 64 l = .ok u) : u < 18446744073709551616 := by
  unfold Lib.parseUintB at h
  split at h
  · cases h
  · have := Lib.parseUintM_le _ _ 0 u (Nat.zero_le _) h
    have e : 2 ^ 64 - 1 = 18446744073709551615 := by decide
    omega
set_option maxHeartbeats 4000000 in
set_option maxRecDepth 100000 in
theorem wbits_any {w : World} (s : ByteArray) (hl : s.size ≤ 1000000) (h : LV w) : Calls Tryz.prog 18 #[.string s] w (BitR w s) := by
  have hp := puint_any s hl h
  rcases hq : Lib.parseUintB 64 s.data.toList with v | _ | _
  ·
    have hc : Calls Tryz.prog 47 #[.string s, .int .i64 10, .int .i64 64] w fun e w' => Below w.heap.size w w' ∧ e = .returned (.tuple #[.int .u64 v, .nilIface]) := hp.mono fun e w' ⟨a, b⟩ => ⟨a, b.elim (fun ⟨u, x, y⟩ => by rw [hq] at x; cases x; exact y) (fun ⟨x, _⟩ => absurd hq (x v))⟩
    have HF := Lib.hid (fun W (hW : Below w.heap.size w W) => tbits_any v (parseUintB_lt hq) (h.below hW))
    clear hp
    by_cases hz : Lib.decDigits v = s.data.toList
    · have HN : Hid (numU s.data.toList = some v) := by rw [Hid, numU, hq]; simp only [hz, if_pos]
      have hb : bstr (Lib.decDigits v) = s := (bstr_eq _ _).2 hz
      generalize bstr (Lib.decDigits v) = SB at *
      subst hb
      clear hz hq
      go_enter Tryz.func18, Tryz.ntmps18
      go_wp2_with (first | (go_at_call 47; refine hc.mono ?_; rintro e w1 ⟨hb1, rfl⟩) | (go_at_call 48; refine (HF.out _ hb1).mono ?_; rintro e w2 ⟨rfl, hb2⟩))
      go_ret2
      exact ⟨bnext hb1 hb2, by rw [HN.out]; rfl⟩
    · have HN : Hid (numU s.data.toList = none) := by rw [Hid, numU, hq]; simp only [hz, if_false]
      have hb : ((bstr (Lib.decDigits v)).toList == s.toList) = false := str_ne fun q => hz ((bstr_eq _ _).1 q)
      generalize bstr (Lib.decDigits v) = SB at *
      clear hz hq
      go_enter Tryz.func18, Tryz.ntmps18
      go_wp2_with (first | (go_at_call 47; refine hc.mono ?_; rintro e w1 ⟨hb1, rfl⟩) | (go_at_call 48; refine (HF.out _ hb1).mono ?_; rintro e w2 ⟨rfl, hb2⟩))
      go_ret2
      exact ⟨bnext hb1 hb2, by rw [HN.out]; rfl⟩
  ·
    have HN : Hid (numU s.data.toList = none) := by rw [Hid, numU, hq]
    have hc : Calls Tryz.prog 47 #[.string s, .int .i64 10, .int .i64 64] w fun e w' => Below w.heap.size w w' ∧ ∃ v N, e = .returned (.tuple #[.int .u64 v, .iface 176 (.pointer (some ⟨N, 0, none⟩))]) := hp.mono fun e w' ⟨a, b⟩ => ⟨a, b.elim (fun ⟨u, x, y⟩ => by rw [hq] at x; cases x) (fun ⟨_, x⟩ => x)⟩
    clear hp hq
    go_enter Tryz.func18, Tryz.ntmps18
    go_wp2_with (go_at_call 47; refine hc.mono ?_; rintro e w1 ⟨hb1, v, N, rfl⟩)
    go_ret2
    exact ⟨hb1, by rw [HN.out]; rfl⟩
  ·
    have HN : Hid (numU s.data.toList = none) := by rw [Hid, numU, hq]
    have hc : Calls Tryz.prog 47 #[.string s, .int .i64 10, .int .i64 64] w fun e w' => Below w.heap.size w w' ∧ ∃ v N, e = .returned (.tuple #[.int .u64 v, .iface 176 (.pointer (some ⟨N, 0, none⟩))]) := hp.mono fun e w' ⟨a, b⟩ => ⟨a, b.elim (fun ⟨u, x, y⟩ => by rw [hq] at x; cases x) (fun ⟨_, x⟩ => x)⟩
    clear hp hq
    go_enter Tryz.func18, Tryz.ntmps18
    go_wp2_with (go_at_call 47; refine hc.mono ?_; rintro e w1 ⟨hb1, v, N, rfl⟩)
    go_ret2
    exact ⟨hb1, by rw [HN.out]; rfl⟩
end Go.Proofs.YtjjgngccgjpnaaaGreatDoor
