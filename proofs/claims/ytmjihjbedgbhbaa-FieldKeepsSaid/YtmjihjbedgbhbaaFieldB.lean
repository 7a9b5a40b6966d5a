/- Bits, Number, total and Pack, walked. -/
import Derived.Test.YtmjihjbedgbhbaaLinkA
import Derived.Test.YtmjihjbedgbhbaaBase
namespace Go.Proofs.Ytmjihjbedgbhbaa
set_option linter.unusedVariables false
set_option linter.unusedSimpArgs false
open Go.RowKit

/-- A word as a number with a sign. -/
def sg (n : Int) : Int := if n < 9223372036854775808 then n else n - 18446744073709551616
theorem wrap_sg {n : Int} (h : U64 n) : IntKind.i64.wrap n = sg n := by
  obtain ⟨h0, h1⟩ := h
  rw [IntKind.wrap_i64]
  unfold sg
  split <;> omega
theorem wrap_i {n : Int} (h : I64 n) : IntKind.i64.wrap n = n := by
  obtain ⟨h0, h1⟩ := h
  rw [IntKind.wrap_i64]
  omega
theorem sg_i64 {n : Int} (h : U64 n) : I64 (sg n) := by
  obtain ⟨h0, h1⟩ := h
  unfold sg I64
  split <;> omega

set_option maxHeartbeats 400000 in
theorem bits_any (n : Int) (w : World) :
    Calls Try.prog 40 #[.int .i64 n] w fun e w' => e = .returned (.int .u64 (Fld.u64 n : Nat)) ∧ w = w' := by
  have hw := wrap_n n
  go_enter Try.func40, Try.ntmps40
  go_wp2
  go_ret
  exact ⟨rfl, rfl⟩

set_option maxHeartbeats 400000 in
theorem number_any (n : Int) (hn : U64 n) (w : World) :
    Calls Try.prog 42 #[.int .u64 n] w fun e w' => e = .returned (.int .i64 (sg n)) ∧ w = w' := by
  have hw := wrap_sg hn
  go_enter Try.func42, Try.ntmps42
  go_wp2
  go_ret
  exact ⟨rfl, rfl⟩

set_option maxHeartbeats 400000 in
theorem rbits_any (n : Int) (hn : I64 n) (w : World) :
    Calls Try.prog 41 #[.int .i64 n] w fun e w' => e = .returned (.int .u64 (Fld.u64 n : Nat)) ∧ w = w' := by
  obtain ⟨h0, h1⟩ := hn
  have hw := wrap_n n
  have hc := Fld.cast_u64 n
  by_cases hp : 0 ≤ n
  · clear hc
    go_enter Try.func41, Try.ntmps41
    go_wp2
    go_ret
    exact ⟨rfl, rfl⟩
  · have w1 : IntKind.i64.wrap (n + 1) = n + 1 := wrap_i ⟨by omega, by omega⟩
    have w2 : IntKind.i64.wrap (-(n + 1)) = -(n + 1) := wrap_i ⟨by omega, by omega⟩
    have w3 : IntKind.u64.wrap (-(n + 1)) = -(n + 1) := by rw [IntKind.wrap_u64]; omega
    have w4 : IntKind.u64.wrap (18446744073709551615 - -(n + 1)) = 18446744073709551615 - -(n + 1) := by rw [IntKind.wrap_u64]; omega
    have hfin : Hid (18446744073709551615 - -(n + 1) = ((Fld.u64 n : Nat) : Int)) := by rw [Hid]; omega
    clear hc hw
    go_enter Try.func41, Try.ntmps41
    go_wp2
    go_ret
    exact ⟨ret_int (by first | (rw [← hfin.out]; done) | (rw [← hfin.out]; omega)), rfl⟩

set_option maxHeartbeats 400000 in
theorem rnumber_any (n : Int) (hn : U64 n) (w : World) :
    Calls Try.prog 43 #[.int .u64 n] w fun e w' => e = .returned (.int .i64 (sg n)) ∧ w = w' := by
  have hw := wrap_sg hn
  obtain ⟨h0, h1⟩ := hn
  by_cases hp : n < 9223372036854775808
  · have hs : Hid (sg n = n) := by rw [Hid, sg, if_pos hp]
    rw [hs.out] at hw
    go_enter Try.func43, Try.ntmps43
    go_wp2
    go_ret
    exact ⟨ret_int (by rw [hs.out]), rfl⟩
  · have w3 : IntKind.u64.wrap (18446744073709551615 - n) = 18446744073709551615 - n := by rw [IntKind.wrap_u64]; omega
    have w1 : IntKind.i64.wrap (18446744073709551615 - n) = 18446744073709551615 - n := wrap_i ⟨by omega, by omega⟩
    have w2 : IntKind.i64.wrap (-(18446744073709551615 - n)) = -(18446744073709551615 - n) := wrap_i ⟨by omega, by omega⟩
    have w4 : IntKind.i64.wrap (-(18446744073709551615 - n) - 1) = -(18446744073709551615 - n) - 1 := wrap_i ⟨by omega, by omega⟩
    have hfin : Hid (-(18446744073709551615 - n) - 1 = sg n) := by rw [Hid, sg, if_neg hp]; omega
    clear hw
    go_enter Try.func43, Try.ntmps43
    go_wp2
    go_ret
    exact ⟨ret_int (by first | (rw [← hfin.out]; done) | (rw [← hfin.out]; omega)), rfl⟩

def ic (n : Int) : List Value := [.int .i64 n]
def uc (n : Int) : List Value := [.int .u64 n]
theorem ic_len (n : Int) : (ic n).length = 1 := rfl
theorem uc_len (n : Int) : (uc n).length = 1 := rfl

/-- The sum of sizes, as far as they may be. -/
def tot : Int → List Int → Int × Bool
  | s, [] => (s, decide (s ≤ 64))
  | s, n :: r => if n < 1 ∨ 64 < n ∨ 64 < s then (0, false) else tot (s + n) r
theorem tot_ok : ∀ (l : List Int) (s : Int), (tot s l).2 = true → (∀ x ∈ l, 1 ≤ x ∧ x ≤ 64) ∧ (tot s l).1 = s + l.sum ∧ s + l.sum ≤ 64
  | [], s, h => by simpa [tot] using h
  | n :: r, s, h => by
    unfold tot at h ⊢
    split at h
    · exact absurd h (by simp)
    · rename_i hc
      rw [if_neg hc]
      obtain ⟨h1, h2, h3⟩ := tot_ok r _ h
      refine ⟨?_, by rw [h2, List.sum_cons]; omega, by rw [List.sum_cons]; omega⟩
      intro x hx
      rcases List.mem_cons.1 hx with rfl | hx
      · omega
      · exact h1 x hx
theorem drop_cons {α : Type} {l : List α} {k : Nat} {x : α} (h : l[k]? = some x) : l.drop k = x :: l.drop (k + 1) := by
  obtain ⟨hk, hx⟩ := List.getElem?_eq_some_iff.1 h
  rw [List.drop_eq_getElem_cons hk, hx]

set_option maxHeartbeats 800000 in
theorem total_any {A : Option Addr} {n c : Nat} {l : List Int} {w : World} (h : Sl ic w A n c l) (hn : n ≤ 1000000) :
    Calls Try.prog 74 #[.slice A n c] w fun e w' => e = .returned (.tuple #[.int .i64 (tot 0 l).1, .bool (tot 0 l).2]) ∧ w = w' := by
  go_enter Try.func74, Try.ntmps74
  go_wp2
  go_loop [4, 9] (fun s i => ∃ (k : Nat) (sum : Int), k ≤ n ∧ i = .int .i64 k ∧ s = .int .i64 sum ∧ 0 ≤ sum ∧ sum ≤ 128 ∧ Hid (tot 0 l = tot sum (l.drop k))) (fun _ i => n - (intOf i).toNat)
  case atStart => exact ⟨0, 0, Nat.zero_le _, rfl, rfl, by omega, by omega, rfl⟩
  case round =>
  obtain ⟨k, sum, hk, rfl, rfl, s0, s1, hT⟩ := hrel
  by_cases hlt : k < n
  · obtain ⟨b, o, rfl, _, hc⟩ := h.base ic_len (by decide) (by omega)
    have hkl : k < l.length := by rw [h.len]; exact hlt
    obtain ⟨x, hx⟩ : ∃ x, l[k]? = some x := ⟨_, List.getElem?_eq_getElem hkl⟩
    have c0 : w.cell? ⟨b, o + k, none⟩ = some (.int .i64 x) := by
      have := hc k x 0 _ hx rfl
      simpa using this
    have hd := drop_cons hx
    rw [hd] at hT
    have b0 : (0 : Int) ≤ (k : Int) := by omega
    have b1 : (k : Int) < (n : Int) := by omega
    clear hc hx hkl h hd
    by_cases h1 : x < 1
    · have hE : Hid (tot 0 l = (0, false)) := by rw [Hid, hT.out, tot, if_pos (Or.inl h1)]
      clear hT
      go_wp2
      go_ret2
      exact ⟨by rw [hE.out]; rfl, rfl⟩
    by_cases h2 : 64 < x
    · have hE : Hid (tot 0 l = (0, false)) := by rw [Hid, hT.out, tot, if_pos (Or.inr (Or.inl h2))]
      clear hT
      go_wp2
      go_ret2
      exact ⟨by rw [hE.out]; rfl, rfl⟩
    by_cases h3 : 64 < sum
    · have hE : Hid (tot 0 l = (0, false)) := by rw [Hid, hT.out, tot, if_pos (Or.inr (Or.inr h3))]
      clear hT
      go_wp2
      go_ret2
      exact ⟨by rw [hE.out]; rfl, rfl⟩
    have hE : Hid (tot 0 l = tot (sum + x) (l.drop (k + 1))) := by rw [Hid, hT.out, tot, if_neg (by omega)]
    clear hT
    go_wp2
    go_round
    case rel => exact ⟨k + 1, sum + x, by omega, by go_num, by go_num, by omega, by omega, hE⟩
    case measure => simp [intOf]; omega
  · have hkn : k = n := by omega
    subst hkn
    have hE : Hid (tot 0 l = (sum, decide (sum ≤ 64))) := by
      rw [Hid, hT.out, List.drop_eq_nil_of_le (by rw [h.len]; omega)]
      rfl
    clear hT
    go_wp2
    go_ret2
    exact ⟨by rw [hE.out]; rfl, rfl⟩

/-- What Pack gathers. -/
def pk : Nat → Int → List Int → List Int → Nat × Bool
  | w, _, _, [] => (w, true)
  | _, _, [], _ :: _ => (0, false)
  | w, a, s :: ss, n :: r => if n.toNat &&& (18446744073709551615 - Fld.mask 0 s) = 0 then pk (Fld.set w a s n.toNat) (a + s) ss r else (0, false)
def packIs (ss ns : List Int) : Nat × Bool := if (tot 0 ss).2 = true ∧ ss.length = ns.length then pk 0 0 ss ns else (0, false)

theorem andNot_mask {n : Int} (hn : U64 n) (s : Int) : bits .andNot .u64 n ((Fld.mask 0 s : Nat) : Int) = ((n.toNat &&& (18446744073709551615 - Fld.mask 0 s) : Nat) : Int) := u64_bnot hn (Fld.mask_lt _ _)
theorem sizes_sum {l : List Int} (h : ∀ x ∈ l, 1 ≤ x ∧ x ≤ 64) : ∀ k, 0 ≤ (l.take k).sum ∧ (l.take k).sum ≤ 64 * (k : Int) := by
  induction l with
  | nil => intro k; simp; omega
  | cons a r ih =>
    intro k
    cases k with
    | zero => simp
    | succ k =>
      obtain ⟨h1, h2⟩ := ih (fun x hx => h x (List.mem_cons_of_mem _ hx)) k
      have := h a List.mem_cons_self
      rw [List.take_succ_cons, List.sum_cons]
      constructor <;> push_cast <;> omega
theorem sum_take_step {l : List Int} {k : Nat} {x : Int} (hx : l[k]? = some x) : (l.take (k + 1)).sum = (l.take k).sum + x := by
  obtain ⟨hk, rfl⟩ := List.getElem?_eq_some_iff.1 hx
  rw [List.take_succ_eq_append_getElem hk, List.sum_append]
  simp

set_option maxHeartbeats 1000000 in
theorem pack_any {A B : Option Addr} {n c n' c' : Nat} {ss ns : List Int} {w : World} (h : Sl ic w A n c ss) (h' : Sl uc w B n' c' ns) (hu : ∀ x ∈ ns, U64 x) (hn : n ≤ 1000000) (hn' : n' ≤ 1000000) :
    Calls Try.prog 55 #[.slice A n c, .slice B n' c'] w fun e w' => e = .returned (.tuple #[.int .u64 ((packIs ss ns).1 : Nat), .bool (packIs ss ns).2]) ∧ w = w' := by
  go_enter Try.func55, Try.ntmps55
  go_wp2_with fail
  refine (total_any h hn).mono ?_
  rintro e w' ⟨rfl, rfl⟩
  by_cases ht : (tot 0 ss).2 = true
  · have ht2 : Hid ((tot 0 ss).2 = true) := ht
    obtain ⟨hs, _, _⟩ := tot_ok ss 0 ht
    obtain ⟨T, hT⟩ : ∃ T, tot 0 ss = T := ⟨_, rfl⟩
    rw [hT] at ht ht2 ⊢
    obtain ⟨T1, T2⟩ := T
    subst ht
    have hE0 : Hid (tot 0 ss = (T1, true)) := hT
    clear hT ht2
    by_cases hl : n = n'
    · subst hl
      have hE : Hid (packIs ss ns = pk 0 0 ss ns) := by rw [Hid, packIs, if_pos ⟨by rw [hE0.out], by rw [h.len, h'.len]⟩]
      clear hE0
      have hss : Hid (∀ x ∈ ss, 1 ≤ x ∧ x ≤ 64) := hs
      have huu : Hid (∀ x ∈ ns, U64 x) := hu
      clear hs hu
      go_wp2
      go_loop [8, 9, 28] (fun v a i => ∃ (k : Nat) (W : Nat), k ≤ n ∧ i = .int .i64 k ∧ v = .int .u64 (W : Nat) ∧ W < 2 ^ 64 ∧ a = .int .i64 (ss.take k).sum ∧ Hid (pk 0 0 ss ns = pk W (ss.take k).sum (ss.drop k) (ns.drop k))) (fun _ _ i => n - (intOf i).toNat)
      case atStart => exact ⟨0, 0, Nat.zero_le _, rfl, rfl, by decide, rfl, rfl⟩
      case round =>
      obtain ⟨k, W, hk, rfl, rfl, hW, rfl, hP⟩ := hrel
      by_cases hlt : k < n
      · obtain ⟨b, o, rfl, _, hc⟩ := h.base ic_len (by decide) (by omega)
        obtain ⟨b', o', rfl, _, hc'⟩ := h'.base uc_len (by decide) (by omega)
        have hkl : k < ss.length := by rw [h.len]; exact hlt
        have hkl' : k < ns.length := by rw [h'.len]; exact hlt
        obtain ⟨x, hx⟩ : ∃ x, ss[k]? = some x := ⟨_, List.getElem?_eq_getElem hkl⟩
        obtain ⟨y, hy⟩ : ∃ y, ns[k]? = some y := ⟨_, List.getElem?_eq_getElem hkl'⟩
        have c0 : w.cell? ⟨b, o + k, none⟩ = some (.int .i64 x) := by
          have := hc k x 0 _ hx rfl
          simpa using this
        have c1 : w.cell? ⟨b', o' + k, none⟩ = some (.int .u64 y) := by
          have := hc' k y 0 _ hy rfl
          simpa using this
        have hyu : U64 y := huu.out y (List.mem_of_getElem? hy)
        obtain ⟨hx1, hx2⟩ := hss.out x (List.mem_of_getElem? hx)
        obtain ⟨q1, q2⟩ := sizes_sum hss.out k
        rw [drop_cons hx, drop_cons hy, pk] at hP
        have hst := sum_take_step hx
        have hst' : Hid ((ss.take (k + 1)).sum = (ss.take k).sum + x) := hst
        obtain ⟨at_, hat⟩ : ∃ at_, (ss.take k).sum = at_ := ⟨_, rfl⟩
        rw [hat] at hP q1 q2 hst' ⊢
        have hand := andNot_mask hyu x
        have b0 : (0 : Int) ≤ (k : Int) := by omega
        have b1 : (k : Int) < (n : Int) := by omega
        clear hc hc' hx hy hkl hkl' h h' hst hat
        by_cases hz : y.toNat &&& (18446744073709551615 - Fld.mask 0 x) = 0
        · rw [if_pos hz] at hP
          have hP' : Hid (pk 0 0 ss ns = pk (Fld.set W at_ x y.toNat) (at_ + x) (ss.drop (k + 1)) (ns.drop (k + 1))) := hP
          rw [hz] at hand
          clear hP hz
          go_wp2_with fail
          refine (mask_any 0 x _ (by unfold I64; omega) (by unfold I64; omega)).mono ?_
          rintro e w' ⟨rfl, rfl⟩
          go_wp2_with fail
          refine (set_any _ at_ x _ _ (U64.nat hW) (by unfold I64; omega) (by unfold I64; omega) hyu).mono ?_
          rintro e w' ⟨rfl, rfl⟩
          go_wp2
          go_round
          case rel => exact ⟨k + 1, _, by omega, by go_num, rfl, Fld.set_lt _ _ _ _, by rw [hst'.out], by rw [Hid, hst'.out, hP'.out]⟩
          case measure => simp [intOf]; omega
        · rw [if_neg hz] at hP
          have hP' : Hid (pk 0 0 ss ns = (0, false)) := hP
          have hz' : (((y.toNat &&& (18446744073709551615 - Fld.mask 0 x) : Nat) : Int) != 0) = true := by rw [bne_iff_ne]; omega
          obtain ⟨Z, hZ⟩ : ∃ Z : Int, ((y.toNat &&& (18446744073709551615 - Fld.mask 0 x) : Nat) : Int) = Z := ⟨_, rfl⟩
          rw [hZ] at hand hz'
          clear hP hz hZ
          go_wp2_with fail
          refine (mask_any 0 x _ (by unfold I64; omega) (by unfold I64; omega)).mono ?_
          rintro e w' ⟨rfl, rfl⟩
          go_wp2
          go_ret2
          exact ⟨by rw [hE.out, hP'.out]; rfl, rfl⟩
      · have hkn : k = n := by omega
        subst hkn
        have hP' : Hid (pk 0 0 ss ns = (W, true)) := by
          have hnil : ns.drop k = [] := List.drop_eq_nil_of_le (by rw [h'.len]; omega)
          rw [Hid, hP.out, hnil, pk]
        clear hP
        go_wp2
        go_ret2
        exact ⟨by rw [hE.out, hP'.out]; rfl, rfl⟩
    · have hE : Hid (packIs ss ns = (0, false)) := by rw [Hid, packIs, if_neg (fun hh => hl (by rw [← h.len, ← h'.len]; exact hh.2))]
      have hl' : (((n : Nat) : Int) != ((n' : Nat) : Int)) = true := by rw [bne_iff_ne]; omega
      clear hE0
      go_wp2
      go_ret2
      exact ⟨by rw [hE.out]; rfl, rfl⟩
  · have hE : Hid (packIs ss ns = (0, false)) := by rw [Hid, packIs, if_neg (fun hh => ht hh.1)]
    have ht' : (tot 0 ss).2 = false := by simpa using ht
    obtain ⟨T, hT⟩ : ∃ T, tot 0 ss = T := ⟨_, rfl⟩
    rw [hT] at ht' ⊢
    obtain ⟨T1, T2⟩ := T
    subst ht'
    clear ht hT
    go_wp2
    go_ret2
    exact ⟨by rw [hE.out]; rfl, rfl⟩

set_option maxHeartbeats 800000 in
theorem lives01 (w : World) : Calls Try.prog 44 #[] w fun e w' => e = .returned (.bool true) ∧ Below w.heap.size w w' := by
  have e1 : packIs [4, 8] [3, 5] = (83, true) := by decide +kernel
  have e2 : Fld.set 0 4 8 511 = 4080 := by decide +kernel
  have cs := set_any 0 4 8 511
  have e3 : Fld.set (0 : Int).toNat 4 8 (511 : Int).toNat = 4080 := e2
  rw [e3] at cs
  go_enter Try.func44, Try.ntmps44
  go_wp2_with fail
  have s1 : Sl ic ((w.alloc (.cells #[.int .i64 4, .int .i64 8] 3)).alloc (.cells #[.int .u64 3, .int .u64 5] 22)) (some ⟨w.heap.size, 0, none⟩) 2 2 [4, 8] :=
    ⟨rfl, Nat.le_refl _, (Rd.new w _ _ rfl).alloc _, fun h => by cases h⟩
  have s2 : Sl uc ((w.alloc (.cells #[.int .i64 4, .int .i64 8] 3)).alloc (.cells #[.int .u64 3, .int .u64 5] 22)) (some ⟨w.heap.size + 1, 0, none⟩) 2 2 [3, 5] :=
    ⟨rfl, Nat.le_refl _, Rd.new _ _ _ (by simp), fun h => by cases h⟩
  refine (pack_any s1 s2 (by simp [U64]) (by decide) (by decide)).mono ?_
  rintro e w' ⟨rfl, rfl⟩
  rw [e1]
  clear s1 s2
  go_wp2_with fail
  refine (cs _ ⟨by decide, by decide⟩ (by unfold I64; omega) (by unfold I64; omega) ⟨by decide, by decide⟩).mono ?_
  rintro e w' ⟨rfl, rfl⟩
  go_wp2
  go_ret
  refine ⟨rfl, ?_⟩
  repeat (first | assumption | exact Below.refl _ _ | refine Below.drew ?_ | refine below_drewN ?_ _ | refine Below.setCell ?_ (by simp <;> omega) _ | refine Below.alloc ?_ (by simp <;> omega) _)
end Go.Proofs.Ytmjihjbedgbhbaa
