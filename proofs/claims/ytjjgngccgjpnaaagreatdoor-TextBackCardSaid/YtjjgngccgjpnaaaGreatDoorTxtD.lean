/- Words as numbers, by the document. -/
import Derived.Test.YtjjgngccgjpnaaaGreatDoorTxtC
namespace Go.Proofs.YtjjgngccgjpnaaaGreatDoor
set_option linter.unusedVariables false
set_option linter.unusedSimpArgs false
open Go.RowKit

theorem byte_at {s : ByteArray} {k : Nat} {c : UInt8} (h : s.data.toList[k]? = some c) : ∃ hk : k < s.size, s[k]'hk = c := by
  obtain ⟨h1, h2⟩ := List.getElem?_eq_some_iff.1 h
  have hk : k < s.size := by simpa using h1
  exact ⟨hk, h2⟩
theorem str_size (s : ByteArray) : s.data.toList.length = s.size := by rw [Array.length_toList]; rfl
def RBitR (w : World) (l : List UInt8) (e : Ending) (w' : World) : Prop := w = w' ∧ e = .returned (.tuple #[.int .u64 (((refU l).getD 0 : Nat) : Int), .bool (refU l).isSome])
set_option maxHeartbeats 4000000 in
set_option maxRecDepth 100000 in
theorem rbits_any {w : World} (s : ByteArray) (hl : s.size ≤ 1000000) : Calls Tryz.prog 19 #[.string s] w (RBitR w s.data.toList) := by
  have hsz := str_size s
  obtain ⟨l, hL⟩ : ∃ l, s.data.toList = l := ⟨_, rfl⟩
  obtain ⟨n, hn⟩ : ∃ n, s.size = n := ⟨_, rfl⟩
  have HSZ : Hid (l.length = n) := by rw [← hL, hsz, hn]; exact rfl
  have HL := Lib.hid hL
  rw [hL]
  by_cases h0 : n = 0
  · subst h0
    have HE : Hid (refU l = none) := by rw [Hid, refU, if_pos (.inl (List.length_eq_zero_iff.1 HSZ.out))]
    clear hL hsz
    go_enter Tryz.func19, Tryz.ntmps19
    go_wp2_with fail
    go_ret2
    exact ⟨rfl, by rw [HE.out]; rfl⟩
  · have t0 : ((n : Int) == 0) = false := by simpa using h0
    by_cases h20 : 20 < n
    · have HE : Hid (refU l = none) := by rw [Hid, refU, if_pos (.inr (.inl (by rw [HSZ.out]; exact h20)))]
      have t20 : (20 : Int) < (n : Int) := by omega
      clear hL hsz
      go_enter Tryz.func19, Tryz.ntmps19
      go_wp2_with fail
      go_ret2
      exact ⟨rfl, by rw [HE.out]; rfl⟩
    · have t20 : decide ((20 : Int) < (n : Int)) = false := decide_eq_false (by omega)
      obtain ⟨c, r, hcr⟩ : ∃ c r, l = c :: r := List.exists_cons_of_ne_nil (fun e => h0 (by rw [← HSZ.out, e]; rfl))
      obtain ⟨hk0, hc0⟩ := byte_at (s := s) (k := 0) (c := c) (by rw [hL, hcr]; rfl)
      have hln0 : l ≠ [] := by rw [hcr]; simp
      by_cases h48 : c = 48 ∧ 1 < n
      · obtain ⟨rfl, h1⟩ := h48
        have HE : Hid (refU l = none) := by rw [Hid, refU, if_pos (.inr (.inr ⟨by rw [hcr]; rfl, by rw [HSZ.out]; exact h1⟩))]
        have t1 : (1 : Int) < (n : Int) := by omega
        clear hL hsz hcr hln0
        go_enter Tryz.func19, Tryz.ntmps19
        go_wp2_with fail
        go_ret2
        exact ⟨rfl, by rw [HE.out]; rfl⟩
      · have HE : Hid (refU l = rB 0 l) := by
          rw [Hid, refU, if_neg]
          rintro (q | q | q)
          · exact hln0 q
          · rw [HSZ.out] at q; exact h20 q
          · rw [hcr] at q
            exact h48 ⟨by simpa using q.1, by rw [← HSZ.out, hcr]; exact q.2⟩
        have HPT : Hid (c = 48 → decide ((1 : Int) < (n : Int)) = false) := fun e => decide_eq_false (fun q => h48 ⟨e, by omega⟩)
        clear hL hsz hcr h48 hln0
        have go : ∀ (q : Prop), (((c.toNat : Int) == 48) = false ∨ (((c.toNat : Int) == 48) = true ∧ decide ((1 : Int) < (n : Int)) = false)) := fun _ => by
          by_cases e : c = 48
          · exact .inr ⟨by subst e; rfl, HPT.out e⟩
          · exact .inl (by
              rw [beq_eq_false_iff_ne]
              intro q
              exact e (UInt8.toNat_inj.1 (by have : c.toNat = 48 := by omega
                                             exact this)))
        rcases go True with tc | ⟨tc, t1⟩
        · clear go
          go_enter Tryz.func19, Tryz.ntmps19
          go_upto_region 4 with fail
          go_wp2_with fail
          go_loopg [4, 5] n (fun gk s4 s5 wr => ∃ (k acc : Nat), k + gk = n ∧ s5 = .int .i64 k ∧ s4 = .int .u64 acc ∧ w = wr ∧ Hid (acc < 18446744073709551616) ∧ Hid (rB 0 l = rB acc (l.drop k)))
          case atStart => exact ⟨0, 0, by omega, rfl, rfl, rfl, by show 0 < _; decide, rfl⟩
          case round =>
            obtain ⟨k, acc, hk, rfl, rfl, rfl, ha, hrb⟩ := hrel
            by_cases hlt : k < n
            · have i0 : (0 : Int) ≤ (k : Int) := by omega
              have i1 : (k : Int) < (n : Int) := by omega
              obtain ⟨x, hx⟩ : ∃ x, l[k]? = some x := ⟨l[k]'(by rw [HSZ.out]; exact hlt), List.getElem?_eq_getElem (i := k) _⟩
              obtain ⟨hkx, hcx⟩ := byte_at (s := s) (k := k) (c := x) (by rw [HL.out]; exact hx)
              have hd : l.drop k = x :: l.drop (k + 1) := by
                obtain ⟨h1, h2⟩ := List.getElem?_eq_some_iff.1 hx
                rw [List.drop_eq_getElem_cons h1, h2]
              have hrb2 := hrb.out
              rw [hd, rB] at hrb2
              clear hx hd hrb
              obtain ⟨y, hy⟩ : ∃ y, x.toNat = y := ⟨_, rfl⟩
              have hy256 : y < 256 := by rw [← hy]; exact UInt8.toNat_lt x
              have ha' := ha.out
              by_cases h1 : y < 48
              · have HX : Hid (rB 0 l = none) := by rw [Hid, hrb2, if_pos (by rw [dig, hy]; exact decide_eq_false (by omega))]
                have u1 : (y : Int) < 48 := by omega
                clear hrb2
                go_wp2_with fail
                go_ret2
                exact ⟨rfl, by rw [HE.out, HX.out]; rfl⟩
              · have u1 : decide ((y : Int) < 48) = false := decide_eq_false (by omega)
                by_cases h2 : 57 < y
                · have HX : Hid (rB 0 l = none) := by rw [Hid, hrb2, if_pos (by rw [dig, hy]; exact decide_eq_false (by omega))]
                  have u2 : (57 : Int) < (y : Int) := by omega
                  clear hrb2
                  go_wp2_with fail
                  go_ret2
                  exact ⟨rfl, by rw [HE.out, HX.out]; rfl⟩
                · have u2 : decide ((57 : Int) < (y : Int)) = false := decide_eq_false (by omega)
                  have u3 : (48 : Int) ≤ (y : Int) := by omega
                  have u4 : (y : Int) ≤ 57 := by omega
                  rw [if_neg (by rw [dig, hy, decide_eq_true (by omega)]; decide), hy] at hrb2
                  have cv : IntKind.u8.wrap ((y : Int) - 48) = ((y - 48 : Nat) : Int) := by
                    rw [show (y : Int) - 48 = ((y - 48 : Nat) : Int) by omega]
                    exact IntWalk.u8_in _ (by omega)
                  obtain ⟨d, hdd⟩ : ∃ d, y - 48 = d := ⟨_, rfl⟩
                  rw [hdd] at hrb2 cv
                  have cw : IntKind.u64.wrap (d : Int) = d := IntWalk.u64_in _ (by omega)
                  have cs : IntKind.u64.wrap (18446744073709551615 - (d : Int)) = 18446744073709551615 - (d : Int) := IntWalk.u64_in _ (by omega)
                  have cq : (18446744073709551615 - (d : Int)).tdiv 10 = (((18446744073709551615 - d) / 10 : Nat) : Int) := by
                    rw [Int.tdiv_eq_ediv_of_nonneg (by omega)]; omega
                  obtain ⟨q, hq⟩ : ∃ q, (18446744073709551615 - d) / 10 = q := ⟨_, rfl⟩
                  rw [hq] at hrb2 cq
                  have cx : IntKind.u64.wrap (q : Int) = q := IntWalk.u64_in _ (by omega)
                  by_cases h3 : q < acc
                  · have HX : Hid (rB 0 l = none) := by rw [Hid, hrb2, if_pos h3]
                    have u5 : (q : Int) < (acc : Int) := by omega
                    clear hrb2
                    go_wp2_with fail
                    go_ret2
                    exact ⟨rfl, by rw [HE.out, HX.out]; rfl⟩
                  · have u5 : decide ((q : Int) < (acc : Int)) = false := decide_eq_false (by omega)
                    rw [if_neg h3] at hrb2
                    have cm : IntKind.u64.wrap (10 * (acc : Int)) = 10 * (acc : Int) := IntWalk.u64_in _ (by omega)
                    have cp : IntKind.u64.wrap (10 * (acc : Int) + (d : Int)) = 10 * (acc : Int) + (d : Int) := IntWalk.u64_in _ (by omega)
                    have ck : IntKind.i64.wrap ((k : Int) + 1) = (k : Int) + 1 := IntWalk.i64_in _ (by omega)
                    have HX := Lib.hid hrb2
                    clear hrb2
                    go_wp2_with fail
                    go_roundg (gk - 1)
                    case measure => omega
                    case rel => exact ⟨k + 1, 10 * acc + d, by omega, by simp, by simp, rfl, by show 10 * acc + d < _; omega, HX⟩
            · have u0 : decide ((k : Int) < (n : Int)) = false := decide_eq_false (by omega)
              have HX : Hid (rB 0 l = some acc) := by rw [Hid, hrb.out, List.drop_eq_nil_of_le (by rw [HSZ.out]; omega)]; rfl
              clear hrb
              go_wp2_with fail
              go_ret2
              exact ⟨rfl, by rw [HE.out, HX.out]; rfl⟩
        · clear go
          go_enter Tryz.func19, Tryz.ntmps19
          go_upto_region 4 with fail
          go_wp2_with fail
          go_loopg [4, 5] n (fun gk s4 s5 wr => ∃ (k acc : Nat), k + gk = n ∧ s5 = .int .i64 k ∧ s4 = .int .u64 acc ∧ w = wr ∧ Hid (acc < 18446744073709551616) ∧ Hid (rB 0 l = rB acc (l.drop k)))
          case atStart => exact ⟨0, 0, by omega, rfl, rfl, rfl, by show 0 < _; decide, rfl⟩
          case round =>
            obtain ⟨k, acc, hk, rfl, rfl, rfl, ha, hrb⟩ := hrel
            by_cases hlt : k < n
            · have i0 : (0 : Int) ≤ (k : Int) := by omega
              have i1 : (k : Int) < (n : Int) := by omega
              obtain ⟨x, hx⟩ : ∃ x, l[k]? = some x := ⟨l[k]'(by rw [HSZ.out]; exact hlt), List.getElem?_eq_getElem (i := k) _⟩
              obtain ⟨hkx, hcx⟩ := byte_at (s := s) (k := k) (c := x) (by rw [HL.out]; exact hx)
              have hd : l.drop k = x :: l.drop (k + 1) := by
                obtain ⟨h1, h2⟩ := List.getElem?_eq_some_iff.1 hx
                rw [List.drop_eq_getElem_cons h1, h2]
              have hrb2 := hrb.out
              rw [hd, rB] at hrb2
              clear hx hd hrb
              obtain ⟨y, hy⟩ : ∃ y, x.toNat = y := ⟨_, rfl⟩
              have hy256 : y < 256 := by rw [← hy]; exact UInt8.toNat_lt x
              have ha' := ha.out
              by_cases h1 : y < 48
              · have HX : Hid (rB 0 l = none) := by rw [Hid, hrb2, if_pos (by rw [dig, hy]; exact decide_eq_false (by omega))]
                have u1 : (y : Int) < 48 := by omega
                clear hrb2
                go_wp2_with fail
                go_ret2
                exact ⟨rfl, by rw [HE.out, HX.out]; rfl⟩
              · have u1 : decide ((y : Int) < 48) = false := decide_eq_false (by omega)
                by_cases h2 : 57 < y
                · have HX : Hid (rB 0 l = none) := by rw [Hid, hrb2, if_pos (by rw [dig, hy]; exact decide_eq_false (by omega))]
                  have u2 : (57 : Int) < (y : Int) := by omega
                  clear hrb2
                  go_wp2_with fail
                  go_ret2
                  exact ⟨rfl, by rw [HE.out, HX.out]; rfl⟩
                · have u2 : decide ((57 : Int) < (y : Int)) = false := decide_eq_false (by omega)
                  have u3 : (48 : Int) ≤ (y : Int) := by omega
                  have u4 : (y : Int) ≤ 57 := by omega
                  rw [if_neg (by rw [dig, hy, decide_eq_true (by omega)]; decide), hy] at hrb2
                  have cv : IntKind.u8.wrap ((y : Int) - 48) = ((y - 48 : Nat) : Int) := by
                    rw [show (y : Int) - 48 = ((y - 48 : Nat) : Int) by omega]
                    exact IntWalk.u8_in _ (by omega)
                  obtain ⟨d, hdd⟩ : ∃ d, y - 48 = d := ⟨_, rfl⟩
                  rw [hdd] at hrb2 cv
                  have cw : IntKind.u64.wrap (d : Int) = d := IntWalk.u64_in _ (by omega)
                  have cs : IntKind.u64.wrap (18446744073709551615 - (d : Int)) = 18446744073709551615 - (d : Int) := IntWalk.u64_in _ (by omega)
                  have cq : (18446744073709551615 - (d : Int)).tdiv 10 = (((18446744073709551615 - d) / 10 : Nat) : Int) := by
                    rw [Int.tdiv_eq_ediv_of_nonneg (by omega)]; omega
                  obtain ⟨q, hq⟩ : ∃ q, (18446744073709551615 - d) / 10 = q := ⟨_, rfl⟩
                  rw [hq] at hrb2 cq
                  have cx : IntKind.u64.wrap (q : Int) = q := IntWalk.u64_in _ (by omega)
                  by_cases h3 : q < acc
                  · have HX : Hid (rB 0 l = none) := by rw [Hid, hrb2, if_pos h3]
                    have u5 : (q : Int) < (acc : Int) := by omega
                    clear hrb2
                    go_wp2_with fail
                    go_ret2
                    exact ⟨rfl, by rw [HE.out, HX.out]; rfl⟩
                  · have u5 : decide ((q : Int) < (acc : Int)) = false := decide_eq_false (by omega)
                    rw [if_neg h3] at hrb2
                    have cm : IntKind.u64.wrap (10 * (acc : Int)) = 10 * (acc : Int) := IntWalk.u64_in _ (by omega)
                    have cp : IntKind.u64.wrap (10 * (acc : Int) + (d : Int)) = 10 * (acc : Int) + (d : Int) := IntWalk.u64_in _ (by omega)
                    have ck : IntKind.i64.wrap ((k : Int) + 1) = (k : Int) + 1 := IntWalk.i64_in _ (by omega)
                    have HX := Lib.hid hrb2
                    clear hrb2
                    go_wp2_with fail
                    go_roundg (gk - 1)
                    case measure => omega
                    case rel => exact ⟨k + 1, 10 * acc + d, by omega, by simp, by simp, rfl, by show 10 * acc + d < _; omega, HX⟩
            · have u0 : decide ((k : Int) < (n : Int)) = false := decide_eq_false (by omega)
              have HX : Hid (rB 0 l = some acc) := by rw [Hid, hrb.out, List.drop_eq_nil_of_le (by rw [HSZ.out]; omega)]; rfl
              clear hrb
              go_wp2_with fail
              go_ret2
              exact ⟨rfl, by rw [HE.out, HX.out]; rfl⟩
theorem refU_lt {l : List UInt8} {u : Nat} (h : refU l = some u) : u < 18446744073709551616 := by
  rw [← numU_ref] at h
  unfold numU at h
  rcases hp : Lib.parseUintB 64 l with v | _ | _
  ·
    rw [hp] at h
    simp only at h
    split at h
    · injection h with h
      subst h
      exact parseUintB_lt hp
    · cases h
  · rw [hp] at h; cases h
  · rw [hp] at h; cases h
def RNumR (w : World) (l : List UInt8) (e : Ending) (w' : World) : Prop := w = w' ∧ e = .returned (.tuple #[.int .i64 ((refI l).getD 0), .bool (refI l).isSome])
set_option maxHeartbeats 4000000 in
set_option maxRecDepth 100000 in
theorem rnumber_any {w : World} (s : ByteArray) (hl : s.size ≤ 1000000) : Calls Tryz.prog 17 #[.string s] w (RNumR w s.data.toList) := by
  have hsz := str_size s
  obtain ⟨l, hL⟩ : ∃ l, s.data.toList = l := ⟨_, rfl⟩
  obtain ⟨n, hn⟩ : ∃ n, s.size = n := ⟨_, rfl⟩
  have HSZ : Hid (l.length = n) := by rw [← hL, hsz, hn]; exact rfl
  rw [hL]
  by_cases h45 : l.head? = some 45
  · obtain ⟨r, rfl⟩ : ∃ r, l = 45 :: r := by
      cases l with
      | nil => cases h45
      | cons c r => injection h45 with h; subst h; exact ⟨r, rfl⟩
    have h0 : 0 < n := by rw [← HSZ.out]; simp
    obtain ⟨hk0, hc0⟩ := byte_at (s := s) (k := 0) (c := 45) (by rw [hL]; rfl)
    have hx : (s.extract 1 n).data.toList = r := by
      have : (s.extract 1 n).data.toList = (s.data.toList.drop 1).take (n - 1) := by simp [ByteArray.data_extract, List.drop_take]
      rw [this, hL]
      simp
      rw [← HSZ.out]
      simp
    have hxs : (s.extract 1 n).size ≤ 1000000 := by rw [ByteArray.size_extract]; omega
    have HB := rbits_any (w := w) (s.extract 1 n) hxs
    have HLD := Lib.hid hx
    have HRI : Hid (refI (45 :: r) = (match refU r with | none => none | some n => if n = 0 ∨ 9223372036854775808 < n then none else some (-(n : Int)))) := rfl
    have t0 : (0 : Int) < (n : Int) := by omega
    generalize hl2 : (45 :: r : List UInt8) = l at *
    clear hL hsz hx hl2 h45
    cases hr : refU r with
    | none =>
      have hb : Calls Tryz.prog 19 #[.string (s.extract 1 n)] w fun e w' => w = w' ∧ e = .returned (.tuple #[.int .u64 0, .bool false]) := HB.mono fun e w' q => by rw [RBitR, HLD.out, hr] at q; exact q
      have HE : Hid (refI l = none) := by rw [Hid, HRI.out, hr]
      clear HB hr
      go_enter Tryz.func17, Tryz.ntmps17
      go_wp2_with (go_at_call 19; refine hb.mono ?_; rintro e w1 ⟨rfl, rfl⟩)
      go_ret2
      exact ⟨rfl, by rw [HE.out]; rfl⟩
    | some u =>
      have hu : u < 18446744073709551616 := refU_lt hr
      have hb : Calls Tryz.prog 19 #[.string (s.extract 1 n)] w fun e w' => w = w' ∧ e = .returned (.tuple #[.int .u64 u, .bool true]) := HB.mono fun e w' q => by rw [RBitR, HLD.out, hr] at q; exact q
      by_cases hz : u = 0
      · have HE : Hid (refI l = none) := by rw [Hid, HRI.out, hr]; simp only [hz, true_or, if_true]
        subst hz
        clear HB hr
        go_enter Tryz.func17, Tryz.ntmps17
        go_wp2_with (go_at_call 19; refine hb.mono ?_; rintro e w1 ⟨rfl, rfl⟩)
        go_ret2
        exact ⟨rfl, by rw [HE.out]; rfl⟩
      · have z0 : ((u : Int) == 0) = false := by simpa using hz
        by_cases hg : 9223372036854775808 < u
        · have HE : Hid (refI l = none) := by rw [Hid, HRI.out, hr]; simp only [hg, or_true, if_true]
          have z1 : (9223372036854775808 : Int) < (u : Int) := by omega
          clear HB hr
          go_enter Tryz.func17, Tryz.ntmps17
          go_wp2_with (go_at_call 19; refine hb.mono ?_; rintro e w1 ⟨rfl, rfl⟩)
          go_ret2
          exact ⟨rfl, by rw [HE.out]; rfl⟩
        · have HE : Hid (refI l = some (-(u : Int))) := by rw [Hid, HRI.out, hr]; simp only [hz, hg, or_false, if_false]
          have z1 : decide ((9223372036854775808 : Int) < (u : Int)) = false := decide_eq_false (by omega)
          have z2 : IntKind.u64.wrap ((u : Int) - 1) = (u : Int) - 1 := IntWalk.u64_in _ (by omega)
          have z3 : IntKind.i64.wrap ((u : Int) - 1) = (u : Int) - 1 := IntWalk.i64_in _ (by omega)
          have z4 : IntKind.i64.wrap (-((u : Int) - 1)) = -((u : Int) - 1) := IntWalk.i64_in _ (by omega)
          have z5 : IntKind.i64.wrap (-((u : Int) - 1) - 1) = -(u : Int) := by rw [show -((u : Int) - 1) - 1 = -(u : Int) by omega]; exact IntWalk.i64_in _ (by omega)
          clear HB hr
          go_enter Tryz.func17, Tryz.ntmps17
          go_wp2_with (go_at_call 19; refine hb.mono ?_; rintro e w1 ⟨rfl, rfl⟩)
          go_ret2
          exact ⟨rfl, by rw [HE.out]; rfl⟩
  · have HRI : Hid (refI l = (match refU l with | none => none | some n => if 9223372036854775807 < n then none else some (n : Int))) := by rw [Hid, refI, if_neg h45]; cases refU l <;> rfl
    have HB := rbits_any (w := w) s hl
    have HLD := Lib.hid hL
    have go : n = 0 ∨ 0 < n ∧ ∃ c, l[0]? = some c ∧ ((c.toNat : Int) == 45) = false := by
      cases l with
      | nil => exact .inl (by rw [← HSZ.out]; rfl)
      | cons c r => exact .inr ⟨by rw [← HSZ.out]; simp, c, rfl, by
          rw [beq_eq_false_iff_ne]
          intro q
          exact h45 (by
            have : c = 45 := UInt8.toNat_inj.1 (by have : c.toNat = 45 := by omega
                                                   exact this)
            rw [this]; rfl)⟩
    rcases go with rfl | ⟨h0, c, hc, tc⟩
    · clear hL hsz h45
      cases hr : refU l with
      | none =>
        have hb : Calls Tryz.prog 19 #[.string s] w fun e w' => w = w' ∧ e = .returned (.tuple #[.int .u64 0, .bool false]) := HB.mono fun e w' q => by rw [RBitR, HLD.out, hr] at q; exact q
        have HE : Hid (refI l = none) := by rw [Hid, HRI.out, hr]
        clear HB hr
        go_enter Tryz.func17, Tryz.ntmps17
        go_wp2_with (go_at_call 19; refine hb.mono ?_; rintro e w1 ⟨rfl, rfl⟩)
        go_ret2
        exact ⟨rfl, by rw [HE.out]; rfl⟩
      | some u =>
        have hu : u < 18446744073709551616 := refU_lt hr
        have hb : Calls Tryz.prog 19 #[.string s] w fun e w' => w = w' ∧ e = .returned (.tuple #[.int .u64 u, .bool true]) := HB.mono fun e w' q => by rw [RBitR, HLD.out, hr] at q; exact q
        by_cases hg : 9223372036854775807 < u
        · have HE : Hid (refI l = none) := by rw [Hid, HRI.out, hr]; simp only [hg, if_true]
          have z1 : (9223372036854775807 : Int) < (u : Int) := by omega
          clear HB hr
          go_enter Tryz.func17, Tryz.ntmps17
          go_wp2_with (go_at_call 19; refine hb.mono ?_; rintro e w1 ⟨rfl, rfl⟩)
          go_ret2
          exact ⟨rfl, by rw [HE.out]; rfl⟩
        · have HE : Hid (refI l = some (u : Int)) := by rw [Hid, HRI.out, hr]; simp only [hg, if_false]
          have z1 : decide ((9223372036854775807 : Int) < (u : Int)) = false := decide_eq_false (by omega)
          have z3 : IntKind.i64.wrap (u : Int) = (u : Int) := IntWalk.i64_in _ (by omega)
          clear HB hr
          go_enter Tryz.func17, Tryz.ntmps17
          go_wp2_with (go_at_call 19; refine hb.mono ?_; rintro e w1 ⟨rfl, rfl⟩)
          go_ret2
          exact ⟨rfl, by rw [HE.out]; rfl⟩
    · obtain ⟨hk0, hc0⟩ := byte_at (s := s) (k := 0) (c := c) (by rw [hL]; exact hc)
      have t0 : (0 : Int) < (n : Int) := by omega
      clear hL hsz h45 hc
      cases hr : refU l with
      | none =>
        have hb : Calls Tryz.prog 19 #[.string s] w fun e w' => w = w' ∧ e = .returned (.tuple #[.int .u64 0, .bool false]) := HB.mono fun e w' q => by rw [RBitR, HLD.out, hr] at q; exact q
        have HE : Hid (refI l = none) := by rw [Hid, HRI.out, hr]
        clear HB hr
        go_enter Tryz.func17, Tryz.ntmps17
        go_wp2_with (go_at_call 19; refine hb.mono ?_; rintro e w1 ⟨rfl, rfl⟩)
        go_ret2
        exact ⟨rfl, by rw [HE.out]; rfl⟩
      | some u =>
        have hu : u < 18446744073709551616 := refU_lt hr
        have hb : Calls Tryz.prog 19 #[.string s] w fun e w' => w = w' ∧ e = .returned (.tuple #[.int .u64 u, .bool true]) := HB.mono fun e w' q => by rw [RBitR, HLD.out, hr] at q; exact q
        by_cases hg : 9223372036854775807 < u
        · have HE : Hid (refI l = none) := by rw [Hid, HRI.out, hr]; simp only [hg, if_true]
          have z1 : (9223372036854775807 : Int) < (u : Int) := by omega
          clear HB hr
          go_enter Tryz.func17, Tryz.ntmps17
          go_wp2_with (go_at_call 19; refine hb.mono ?_; rintro e w1 ⟨rfl, rfl⟩)
          go_ret2
          exact ⟨rfl, by rw [HE.out]; rfl⟩
        · have HE : Hid (refI l = some (u : Int)) := by rw [Hid, HRI.out, hr]; simp only [hg, if_false]
          have z1 : decide ((9223372036854775807 : Int) < (u : Int)) = false := decide_eq_false (by omega)
          have z3 : IntKind.i64.wrap (u : Int) = (u : Int) := IntWalk.i64_in _ (by omega)
          clear HB hr
          go_enter Tryz.func17, Tryz.ntmps17
          go_wp2_with (go_at_call 19; refine hb.mono ?_; rintro e w1 ⟨rfl, rfl⟩)
          go_ret2
          exact ⟨rfl, by rw [HE.out]; rfl⟩
end Go.Proofs.YtjjgngccgjpnaaaGreatDoor
