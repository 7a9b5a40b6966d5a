/- The law FieldPacks, walked. -/
import Derived.Test.YtmjihjbedgbhbaaFieldH
namespace Go.Proofs.Ytmjihjbedgbhbaa
set_option linter.unusedVariables false
set_option linter.unusedSimpArgs false
open Go.RowKit

theorem bit_one {m : Int} (hm : U64 m) {i : Nat} (h : bt m (i : Int) = 1) {s : Nat} (hs : s ≤ i) (hi : i < 64) : ¬ m.toNat < 2 ^ s := by
  intro hlt
  rw [bt_nat, Nat.testBit_lt_two_pow (Nat.lt_of_lt_of_le hlt (Nat.pow_le_pow_right (by decide) hs))] at h
  simp at h
theorem bits_none {m : Int} (hm : U64 m) {s : Nat} (h : ∀ i : Nat, s ≤ i → i < 64 → ¬ bt m (i : Int) = 1) : m.toNat < 2 ^ s := by
  refine Nat.lt_pow_two_of_testBit _ fun i hi => ?_
  by_cases h64 : i < 64
  · have h1 := h i hi h64
    rw [bt_nat] at h1
    cases hb : m.toNat.testBit i with
    | false => rfl
    | true => rw [hb] at h1; simp at h1
  · exact Nat.testBit_lt_two_pow (Nat.lt_of_lt_of_le hm.lt (Nat.pow_le_pow_right (by decide) (by omega)))
theorem bt_range (m : Int) (i : Int) : bt m i = 0 ∨ bt m i = 1 := by
  unfold bt
  cases Fld.bitZ m.toNat i <;> simp

/-- Too long lists: the example alone is asked. -/
theorem packs_great {A B : Option Addr} {n c n' c' : Nat} {m : Int} {W : World} (h : 100 < n ∨ 100 < n') (hn : n ≤ 9223372036854775807) (hn' : n' ≤ 9223372036854775807) :
    Calls Try.prog 12 #[.slice A n c, .slice B n' c', .int .u64 m] W fun e w' => e = .returned (.bool true) ∧ Below W.heap.size W w' := by
  by_cases h1 : 100 < n
  · have t1 : (100 : Int) < (n : Int) := by omega
    go_enter Try.func12, Try.ntmps12
    go_wp2_with (go_at_call 44; refine (lives01 _).mono ?_; rintro e w5 ⟨rfl, hb5⟩)
    go_ret
    exact ⟨rfl, hb5⟩
  · have t1 : ¬ (100 : Int) < (n : Int) := by omega
    have t2 : (100 : Int) < (n' : Int) := by omega
    go_enter Try.func12, Try.ntmps12
    go_wp2_with (go_at_call 44; refine (lives01 _).mono ?_; rintro e w5 ⟨rfl, hb5⟩)
    go_ret
    exact ⟨rfl, hb5⟩

set_option maxHeartbeats 4000000 in
set_option maxRecDepth 100000 in
theorem packs_walk {A B : Option Addr} {n c n' c' : Nat} {ss ns : List Int} {m : Int} {w : World} (h : Sl ic w A n c ss) (h' : Sl uc w B n' c' ns) (hu : ∀ x ∈ ns, U64 x) (hm : U64 m) (hn : n ≤ 100) (hn' : n' ≤ 100) :
    Calls Try.prog 12 #[.slice A n c, .slice B n' c', .int .u64 m] w fun e w' => e = .returned (.bool true) ∧ Below w.heap.size w w' := by
  have hp := pack_any h h' hu (by omega) (by omega)
  have hrp := rpack_any h h' hu (by omega) (by omega)
  generalize packIs ss ns = PK at *
  obtain ⟨P1, P2⟩ := PK
  have hr := right_any h (by omega)
  clear h' hu
  by_cases hs : Sizes ss
  · rw [(tot_iff ss).2 hs] at hr
    have hsum := rsum_any h (by omega) hs.1
    have h64 := hs.2
    have h0 := sum_ge_len ss fun x hx => (hs.1 x hx).1
    obtain ⟨S, hS⟩ : ∃ S : Nat, ss.sum = (S : Int) := ⟨ss.sum.toNat, by omega⟩
    rw [hS] at hsum h64
    have hlt := Fld.above_none hm.lt (s := S) (by omega)
    by_cases hz : m.toNat < 2 ^ S
    · have hun := unpack_ok h (by omega) hm hs (by rw [hS]; exact hlt.2 hz)
      have HS : Hid (Sizes ss) := hs
      have HZ : Hid (m.toNat < 2 ^ S) := hz
      have HSS : Hid (ss.sum = (S : Int)) := hS
      clear hs hz hS hlt h0
      cases P2 <;>
      · go_enter Try.func12, Try.ntmps12
        go_wp2_with (first | (go_at_call 55; refine (hp).mono ?_; rintro e w' ⟨rfl, rfl⟩) | (go_at_call 56; refine (hrp).mono ?_; rintro e w' ⟨rfl, rfl⟩) | (go_at_call 57; refine (hun).mono ?_; rintro e w1 ⟨A1, c1, rfl, own1, hb1⟩))
        have hr1 := right_any (h.below hb1) (by omega)
        rw [(tot_iff ss).2 HS.out] at hr1
        have hsum1 := rsum_any (h.below hb1) (by omega) HS.out.1
        rw [HSS.out] at hsum1
        clear hr hsum hun hp hrp
        go_wp2_with (first | (go_at_call 58; refine (hr1).mono ?_; rintro e w' ⟨rfl, rfl⟩) | (go_at_call 59; refine (hsum1).mono ?_; rintro e w' ⟨rfl, rfl⟩))
        clear hr1 hsum1
        go_loopg [14] (64 - S) (fun gk i wr => ∃ q : Nat, q + gk = 64 ∧ S ≤ q ∧ i = .int .i64 q ∧ w1 = wr)
        case atStart => exact ⟨S, by omega, by omega, rfl, rfl⟩
        case round =>
        obtain ⟨q, hq, hSq, rfl, rfl⟩ := hrel
        by_cases hq64 : q < 64
        · have hb := bit_any m (q : Int) hm
          have hb0 : bt m (q : Int) = 0 := by
            rcases bt_range m (q : Int) with e0 | e0
            · exact e0
            · exact absurd HZ.out (bit_one hm e0 hSq hq64)
          rw [hb0] at hb
          clear hb0
          go_wp2_with (go_at_call 51; refine (hb _).mono ?_; rintro e w' ⟨rfl, rfl⟩)
          go_roundg (gk - 1)
          case measure => omega
          case rel => exact ⟨q + 1, by omega, by omega, by go_num, rfl⟩
        · have hge : ¬ (q : Int) < 64 := by omega
          have sx : Sl uc w1 A1 n c1 (cuts m.toNat 0 ss) := Sl.of_own uc_len (by decide) own1
          clear own1
          go_wp2_with fail
          go_loopg [15, 16] n (fun gk a i wr => ∃ (k t : Nat), k + gk = n ∧ i = .int .i64 k ∧ a = .int .i64 t ∧ Hid ((t : Int) = (ss.take k).sum) ∧ t ≤ 64 ∧ Below w1.heap.size w1 wr)
          case atStart => exact ⟨0, 0, by omega, rfl, rfl, by simp [Hid], by omega, brefl w1⟩
          case round =>
          obtain ⟨k, t, hk, rfl, rfl, hat, ht, hbr⟩ := hrel
          by_cases hlt : k < n
          · obtain ⟨b, o, rfl, _, hc⟩ := h.base ic_len (by decide) (by omega)
            obtain ⟨b', o', rfl, _, hc'⟩ := sx.base uc_len (by decide) (by omega)
            obtain ⟨x, hx⟩ : ∃ x, ss[k]? = some x := ⟨_, List.getElem?_eq_getElem (by rw [h.len]; exact hlt)⟩
            have c0 : wr.cell? ⟨b, o + k, none⟩ = some (.int .i64 x) := keep_below (by have := hc k x 0 _ hx rfl; simpa using this) (bnext hb1 hbr)
            have c1 : wr.cell? ⟨b', o' + k, none⟩ = some (.int .u64 ((Fld.cut m.toNat (ss.take k).sum x : Nat) : Int)) := keep_below (by have := hc' k _ 0 _ (cuts_get m.toNat hx) rfl; simpa using this) hbr
            rw [← hat.out] at c1
            obtain ⟨hx1, hx2⟩ := HS.out.1 x (List.mem_of_getElem? hx)
            have hst := sum_take_step hx
            have hsl : (ss.take (k + 1)).sum ≤ 64 := by
              have e : ss.sum = (ss.take (k + 1)).sum + (ss.drop (k + 1)).sum := by rw [← List.sum_append, List.take_append_drop]
              have h1 := sum_ge_len (ss.drop (k + 1)) fun x hx => (HS.out.1 x (List.mem_of_mem_drop hx)).1
              have := HS.out.2
              omega
            obtain ⟨s, rfl⟩ : ∃ s : Nat, x = (s : Int) := ⟨x.toNat, by omega⟩
            have hat2 : Hid (((t + s : Nat) : Int) = (ss.take (k + 1)).sum) := by rw [Hid, hst, ← hat.out]; push_cast; rfl
            have hts : t + s ≤ 64 := by have := hat2.out; omega
            have hcut := rcut_any m (t : Int) (s : Int) hm (by omega) (by omega) (by omega) (by omega)
            generalize Fld.cut m.toNat (t : Int) (s : Int) = C at *
            have b0 : (0 : Int) ≤ (k : Int) := by omega
            have b1 : (k : Int) < (n : Int) := by omega
            clear hc hc' hx hst hsl h sx
            go_wp2_with fail
            go_quiet ((go_at_call 49; exact q_same (hcut _)))
            go_wp2
            go_roundg (gk - 1)
            case measure => omega
            case rel => exact ⟨k + 1, t + s, by omega, by go_num, by go_num, hat2, hts, below_drewN hbr _⟩
          · obtain rfl : k = n := by omega
            have hge : ¬ ((k : Int) < (k : Int)) := by omega
            go_wp2_with (go_at_call 44; refine (lives01 _).mono ?_; rintro e w5 ⟨rfl, hb5⟩)
            go_ret
            exact ⟨rfl, bnext (bnext hb1 hbr) hb5⟩
    · have hun := unpack_no h (by omega) hm (fun q => hz (hlt.1 (by rw [← hS]; exact q.2)))
      have HZ : Hid (¬ m.toNat < 2 ^ S) := hz
      clear hs hz hS hlt h0 h
      cases P2 <;>
      · go_enter Try.func12, Try.ntmps12
        go_wp2_with (first | (go_at_call 55; refine (hp).mono ?_; rintro e w' ⟨rfl, rfl⟩) | (go_at_call 56; refine (hrp).mono ?_; rintro e w' ⟨rfl, rfl⟩) | (go_at_call 57; refine (hun).mono ?_; rintro e w' ⟨rfl, rfl⟩) | (go_at_call 58; refine (hr).mono ?_; rintro e w' ⟨rfl, rfl⟩) | (go_at_call 59; refine (hsum).mono ?_; rintro e w' ⟨rfl, rfl⟩))
        clear hp hrp hun hr hsum
        go_loopg [14] (64 - S) (fun gk i wr => ∃ q : Nat, q + gk = 64 ∧ S ≤ q ∧ i = .int .i64 q ∧ w = wr ∧ Hid (∀ i : Nat, S ≤ i → i < q → ¬ bt m (i : Int) = 1))
        case atStart => exact ⟨S, by omega, by omega, rfl, rfl, fun i h1 h2 => by omega⟩
        case round =>
        obtain ⟨q, hq, hSq, rfl, rfl, hno⟩ := hrel
        by_cases hq64 : q < 64
        · have hb := bit_any m (q : Int) hm
          rcases bt_range m (q : Int) with e0 | e0
          · have hno2 : Hid (∀ i : Nat, S ≤ i → i < q + 1 → ¬ bt m (i : Int) = 1) := fun i h1 h2 => by
              rcases Nat.lt_succ_iff_lt_or_eq.1 h2 with h3 | h3
              · exact hno.out i h1 h3
              · rw [h3, e0]; decide
            rw [e0] at hb
            clear e0
            go_wp2_with (go_at_call 51; refine (hb _).mono ?_; rintro e w' ⟨rfl, rfl⟩)
            go_roundg (gk - 1)
            case measure => omega
            case rel => exact ⟨q + 1, by omega, by omega, by go_num, rfl, hno2⟩
          · rw [e0] at hb
            clear e0
            go_wp2_with (first | (go_at_call 51; refine (hb _).mono ?_; rintro e w' ⟨rfl, rfl⟩) | (go_at_call 44; refine (lives01 _).mono ?_; rintro e w5 ⟨rfl, hb5⟩))
            go_ret
            exact ⟨rfl, hb5⟩
        · exact absurd (bits_none hm fun i h1 h2 => hno.out i h1 (by omega)) HZ.out
  · have hun := unpack_no h (by omega) hm (fun q => hs q.1)
    rw [tot_no hs] at hr
    clear hs h
    cases P2 <;>
    · go_enter Try.func12, Try.ntmps12
      go_wp2_with (first | (go_at_call 55; refine (hp).mono ?_; rintro e w' ⟨rfl, rfl⟩) | (go_at_call 56; refine (hrp).mono ?_; rintro e w' ⟨rfl, rfl⟩) | (go_at_call 57; refine (hun).mono ?_; rintro e w' ⟨rfl, rfl⟩) | (go_at_call 58; refine (hr).mono ?_; rintro e w' ⟨rfl, rfl⟩) | (go_at_call 44; refine (lives01 _).mono ?_; rintro e w5 ⟨rfl, hb5⟩))
      go_ret
      exact ⟨rfl, hb5⟩

theorem packs_any {A B : Option Addr} {n c n' c' : Nat} {ss ns : List Int} {m : Int} {w : World} (h : Sl ic w A n c ss) (h' : Sl uc w B n' c' ns) (hu : ∀ x ∈ ns, U64 x) (hm : U64 m) (h1 : c ≤ maxLen) (h2 : c' ≤ maxLen) :
    Calls Try.prog 12 #[.slice A n c, .slice B n' c', .int .u64 m] w fun e w' => e = .returned (.bool true) ∧ Below w.heap.size w w' := by
  unfold maxLen at h1 h2
  have e1 := h.cap
  have e2 := h'.cap
  by_cases hh : n ≤ 100 ∧ n' ≤ 100
  · exact packs_walk h h' hu hm hh.1 hh.2
  · exact packs_great (by omega) (by omega) (by omega)
end Go.Proofs.Ytmjihjbedgbhbaa
