/- The contract of the reference's Pack. -/
import Derived.Test.YtmjihjbedgbhbaaFieldG
namespace Go.Proofs.Ytmjihjbedgbhbaa
set_option linter.unusedVariables false
set_option linter.unusedSimpArgs false
open Go.RowKit

theorem bt_nat (y : Int) (q : Nat) : bt y (q : Int) = if y.toNat.testBit q = true then 1 else 0 := by
  unfold bt
  rw [Fld.bitZ_nat]
  cases y.toNat.testBit q <;> rfl
theorem mod_step (y q : Nat) : y % 2 ^ (q + 1) = y % 2 ^ q + (if y.testBit q = true then 2 ^ q else 0) := by
  rw [Nat.mod_pow_succ, Fld.bit_div]
  cases y.testBit q <;> simp
theorem put_lt {W y a s : Nat} (hW : W < 2 ^ a) (hy : y < 2 ^ s) (h : a + s ≤ 64) : W + y * 2 ^ a < 2 ^ (a + s) ∧ W + y * 2 ^ a ≤ 18446744073709551615 := by
  have h1 : (y + 1) * 2 ^ a ≤ 2 ^ s * 2 ^ a := Nat.mul_le_mul_right _ hy
  rw [← Nat.pow_add, Nat.add_mul, Nat.one_mul, Nat.add_comm s a] at h1
  have h2 : W + y * 2 ^ a < 2 ^ (a + s) := by omega
  refine ⟨h2, ?_⟩
  have h3 : 2 ^ (a + s) ≤ 2 ^ 64 := Nat.pow_le_pow_right (by decide) h
  omega

set_option maxHeartbeats 2000000 in
theorem rpack_any {A B : Option Addr} {n c n' c' : Nat} {ss ns : List Int} {w : World} (h : Sl ic w A n c ss) (h' : Sl uc w B n' c' ns) (hu : ∀ x ∈ ns, U64 x) (hn : n ≤ 1000000) (hn' : n' ≤ 1000000) :
    Calls Try.prog 56 #[.slice A n c, .slice B n' c'] w fun e w' => e = .returned (.tuple #[.int .u64 ((packIs ss ns).1 : Nat), .bool (packIs ss ns).2]) ∧ w = w' := by
  have hr := right_any h hn
  by_cases hs : Sizes ss
  · rw [(tot_iff ss).2 hs] at hr
    by_cases hl : n = n'
    · subst hl
      have hE : Hid (packIs ss ns = pk 0 0 ss ns) := by rw [Hid, packIs, if_pos ⟨(tot_iff ss).2 hs, by rw [h.len, h'.len]⟩]
      have HS : Hid (Sizes ss) := hs
      have HU : Hid (∀ x ∈ ns, U64 x) := hu
      clear hs hu
      go_enter Try.func56, Try.ntmps56
      go_wp2_with fail
      refine hr.mono ?_
      rintro e w' ⟨rfl, rfl⟩
      go_wp2_with fail
      clear hr
      go_loopg [6, 7, 8] n (fun gk v a i wr => ∃ (k W t : Nat), k + gk = n ∧ i = .int .i64 k ∧ v = .int .u64 W ∧ a = .int .i64 t ∧ Hid ((t : Int) = (ss.take k).sum) ∧ t ≤ 64 ∧ Hid (W < 2 ^ t) ∧ W ≤ 18446744073709551615 ∧ Hid (pk 0 0 ss ns = pk W t (ss.drop k) (ns.drop k)) ∧ w = wr)
      case atStart => exact ⟨0, 0, 0, by omega, rfl, rfl, rfl, by simp [Hid], by omega, by simp [Hid], by omega, rfl, rfl⟩
      case round =>
      obtain ⟨k, W, t, hk, rfl, rfl, rfl, hat, ht, hW, hW1, hP, rfl⟩ := hrel
      by_cases hlt : k < n
      · obtain ⟨b, o, rfl, _, hc⟩ := h.base ic_len (by decide) (by omega)
        obtain ⟨b', o', rfl, _, hc'⟩ := h'.base uc_len (by decide) (by omega)
        obtain ⟨x, hx⟩ : ∃ x, ss[k]? = some x := ⟨_, List.getElem?_eq_getElem (by rw [h.len]; exact hlt)⟩
        obtain ⟨y, hy⟩ : ∃ y, ns[k]? = some y := ⟨_, List.getElem?_eq_getElem (by rw [h'.len]; exact hlt)⟩
        have c0 : w.cell? ⟨b, o + k, none⟩ = some (.int .i64 x) := by
          have := hc k x 0 _ hx rfl
          simpa using this
        have c1 : w.cell? ⟨b', o' + k, none⟩ = some (.int .u64 y) := by
          have := hc' k y 0 _ hy rfl
          simpa using this
        have hyu : U64 y := HU.out y (List.mem_of_getElem? hy)
        obtain ⟨hx1, hx2⟩ := HS.out.1 x (List.mem_of_getElem? hx)
        obtain ⟨s, rfl⟩ : ∃ s : Nat, x = (s : Int) := ⟨x.toNat, by omega⟩
        have hst := sum_take_step hx
        have hsl : (ss.take (k + 1)).sum ≤ 64 := by
          have e : ss.sum = (ss.take (k + 1)).sum + (ss.drop (k + 1)).sum := by rw [← List.sum_append, List.take_append_drop]
          have h1 := sum_ge_len (ss.drop (k + 1)) fun x hx => (HS.out.1 x (List.mem_of_mem_drop hx)).1
          have := HS.out.2
          omega
        have hat2 : Hid (((t + s : Nat) : Int) = (ss.take (k + 1)).sum) := by rw [Hid, hst, ← hat.out]; push_cast; rfl
        have hts : t + s ≤ 64 := by have := hat2.out; omega
        have hy64 : y.toNat < 2 ^ 64 := hyu.lt
        have hP1 : Hid (y.toNat < 2 ^ s → pk 0 0 ss ns = pk (W + y.toNat * 2 ^ t) ((t + s : Nat) : Int) (ss.drop (k + 1)) (ns.drop (k + 1))) := by
          intro hlt2
          rw [hP.out, drop_cons hx, drop_cons hy, pk, if_pos ((Fld.above_none hy64 (by omega)).2 hlt2), Fld.set_put hW.out hlt2 hts]
          push_cast
          rfl
        have hP0 : Hid (¬ y.toNat < 2 ^ s → pk 0 0 ss ns = (0, false)) := by
          intro hge
          rw [hP.out, drop_cons hx, drop_cons hy, pk, if_neg (fun e => hge ((Fld.above_none hy64 (by omega)).1 e))]
        have HY : Hid (y.toNat < 2 ^ 64) := hy64
        have b0 : (0 : Int) ≤ (k : Int) := by omega
        have b1 : (k : Int) < (n : Int) := by omega
        clear hc hc' hx hy hst hsl hy64
        go_wp2_with fail
        obtain ⟨gr, hgr⟩ : ∃ g, g = gk := ⟨_, rfl⟩
        subst hgr
        go_loopg [6, 9] 64 (fun gq v kk wr => ∃ (q V : Nat), q + gq = 64 ∧ kk = .int .i64 q ∧ v = .int .u64 V ∧ V ≤ 18446744073709551615 ∧ Hid (V = W + y.toNat % 2 ^ q * 2 ^ t ∧ y.toNat % 2 ^ q < 2 ^ s) ∧ w = wr)
        case atStart => exact ⟨0, W, by omega, rfl, rfl, hW1, ⟨by simp [Nat.mod_one], by rw [Nat.pow_zero, Nat.mod_one]; exact Nat.two_pow_pos s⟩, rfl⟩
        case round =>
        obtain ⟨q, V, hq, rfl, rfl, hV1, hV, rfl⟩ := hrel
        by_cases hq64 : q < 64
        · have hbit := bit_any y (q : Int) hyu
          rw [bt_nat] at hbit
          have d0 : (q : Int) < 64 := by omega
          cases hb : y.toNat.testBit q with
          | false =>
            rw [hb] at hbit
            have hV2 : Hid (V = W + y.toNat % 2 ^ (q + 1) * 2 ^ t ∧ y.toNat % 2 ^ (q + 1) < 2 ^ s) := by
              rw [Hid, mod_step, hb]
              simpa using hV.out
            clear hb hV
            go_wp2_with (go_at_call 51; refine (hbit _).mono ?_; rintro e w' ⟨rfl, rfl⟩)
            go_roundg (gk - 1)
            case measure => omega
            case rel => exact ⟨q + 1, V, by omega, by go_num, rfl, hV1, hV2, rfl⟩
          | true =>
            rw [hb] at hbit
            by_cases hqs : q < s
            · have hmod : Hid (y.toNat % 2 ^ (q + 1) = y.toNat % 2 ^ q + 2 ^ q) := by rw [Hid, mod_step, hb]; rfl
              have hlt3 : Hid (y.toNat % 2 ^ (q + 1) < 2 ^ s) := Nat.lt_of_lt_of_le (Nat.mod_lt _ (Nat.two_pow_pos _)) (Nat.pow_le_pow_right (by decide) hqs)
              have hpw := power_any (t + q) (by omega)
              obtain ⟨p, hp⟩ : ∃ p : Nat, 2 ^ (t + q) = p := ⟨_, rfl⟩
              have hpw' : ∀ w : World, Calls Try.prog 73 #[.int .i64 ((t : Int) + (q : Int))] w fun e w' => e = .returned (.int .u64 (p : Int)) ∧ w = w' := by
                rw [hp] at hpw
                rw [Int.natCast_add] at hpw
                exact hpw
              have hsum : Hid (V + p = W + y.toNat % 2 ^ (q + 1) * 2 ^ t) := by
                rw [Hid, hV.out.1, hmod.out, ← hp, Nat.pow_add, Nat.add_mul]
                have := Nat.mul_comm (2 ^ t) (2 ^ q)
                omega
              have hle : V + p ≤ 18446744073709551615 := by
                rw [hsum.out]
                exact (put_lt hW.out hlt3.out hts).2
              have d1 : ¬ ((s : Int) ≤ (q : Int)) := by omega
              clear hb hp hpw hmod hV
              go_wp2_with (first | (go_at_call 51; refine (hbit _).mono ?_; rintro e w' ⟨rfl, rfl⟩) | (go_at_call 73; refine (hpw' _).mono ?_; rintro e w' ⟨rfl, rfl⟩))
              go_roundg (gk - 1)
              case measure => omega
              case rel => exact ⟨q + 1, V + p, by omega, by go_num, by go_num, hle, ⟨hsum.out, hlt3.out⟩, rfl⟩
            · have hE0 : Hid (pk 0 0 ss ns = (0, false)) := hP0.out fun hlt2 => by
                have h1 := Nat.testBit_lt_two_pow (Nat.lt_of_lt_of_le hlt2 (Nat.pow_le_pow_right (by decide) (Nat.le_of_not_lt hqs)))
                rw [h1] at hb
                cases hb
              have d1 : (s : Int) ≤ (q : Int) := by omega
              clear hb hV
              go_wp2_with (go_at_call 51; refine (hbit _).mono ?_; rintro e w' ⟨rfl, rfl⟩)
              go_ret2
              exact ⟨by rw [hE.out, hE0.out]; rfl, rfl⟩
        · obtain rfl : q = 64 := by omega
          have hyv : Hid (V = W + y.toNat * 2 ^ t ∧ y.toNat < 2 ^ s) := by
            have := hV.out
            rwa [Nat.mod_eq_of_lt HY.out] at this
          have hPn : Hid (pk 0 0 ss ns = pk V ((t + s : Nat) : Int) (ss.drop (k + 1)) (ns.drop (k + 1))) := by
            rw [Hid, hyv.out.1]
            exact hP1.out hyv.out.2
          have hVlt : Hid (V < 2 ^ (t + s)) := by
            rw [Hid, hyv.out.1]
            exact (put_lt hW.out hyv.out.2 hts).1
          clear hV
          go_wp2
          go_roundg (gr - 1)
          case measure => omega
          case rel => exact ⟨k + 1, V, t + s, by omega, by go_num, rfl, by go_num, hat2, hts, hVlt, hV1, hPn, rfl⟩
      · have hkn : k = n := by omega
        subst hkn
        have hP' : Hid (pk 0 0 ss ns = (W, true)) := by
          have hnil : ns.drop k = [] := List.drop_eq_nil_of_le (by rw [h'.len]; omega)
          rw [Hid, hP.out, hnil, pk]
        clear hP
        go_wp2
        go_ret2
        exact ⟨by rw [hE.out, hP'.out]; rfl, rfl⟩
    · have hE : Hid (packIs ss ns = (0, false)) := by rw [Hid, packIs, if_neg (fun hh => hl (by rw [← h.len, ← h'.len]; exact hh.2))]
      have hl' : (((n : Nat) : Int) != ((n' : Nat) : Int)) = true := by rw [bne_iff_ne]; omega
      clear hs
      go_enter Try.func56, Try.ntmps56
      go_wp2_with fail
      refine hr.mono ?_
      rintro e w' ⟨rfl, rfl⟩
      go_wp2
      go_ret2
      exact ⟨by rw [hE.out]; rfl, rfl⟩
  · have hE : Hid (packIs ss ns = (0, false)) := by rw [Hid, packIs, if_neg (fun hh => hs ((tot_iff ss).1 hh.1))]
    rw [tot_no hs] at hr
    clear hs
    go_enter Try.func56, Try.ntmps56
    go_wp2_with fail
    refine hr.mono ?_
    rintro e w' ⟨rfl, rfl⟩
    go_wp2
    go_ret2
    exact ⟨by rw [hE.out]; rfl, rfl⟩
end Go.Proofs.Ytmjihjbedgbhbaa
