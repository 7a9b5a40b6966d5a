/- The contracts of the reference's Right and Sum, and of field.Unpack. -/
import Derived.Test.YtmjihjbedgbhbaaFieldC
import Derived.Test.YtmjihjbedgbhbaaPlan
namespace Go.Proofs.Ytmjihjbedgbhbaa
set_option linter.unusedVariables false
set_option linter.unusedSimpArgs false
open Go.RowKit

theorem tot_of : ∀ (l : List Int) (s : Int), (∀ x ∈ l, 1 ≤ x ∧ x ≤ 64) → s + l.sum ≤ 64 → tot s l = (s + l.sum, true)
  | [], s, _, h => by simp [tot]; simpa using h
  | n :: r, s, h1, h => by
    have hn := h1 n List.mem_cons_self
    rw [List.sum_cons] at h ⊢
    have h0 : 0 ≤ r.sum := by
      have := (sizes_sum (fun x hx => h1 x (List.mem_cons_of_mem _ hx)) r.length).1
      rwa [List.take_length] at this
    rw [tot, if_neg (by omega), tot_of r (s + n) (fun x hx => h1 x (List.mem_cons_of_mem _ hx)) (by omega), show s + n + r.sum = s + (n + r.sum) by omega]
theorem sum_ge_len : ∀ (l : List Int), (∀ x ∈ l, 1 ≤ x) → (l.length : Int) ≤ l.sum
  | [], _ => by simp
  | n :: r, h => by
    have hn := h n List.mem_cons_self
    have := sum_ge_len r (fun x hx => h x (List.mem_cons_of_mem _ hx))
    rw [List.sum_cons, List.length_cons]
    push_cast
    omega
def Sizes (l : List Int) : Prop := (∀ x ∈ l, 1 ≤ x ∧ x ≤ 64) ∧ l.sum ≤ 64
theorem tot_iff (l : List Int) : (tot 0 l).2 = true ↔ Sizes l := by
  constructor
  · intro h
    obtain ⟨h1, h2, h3⟩ := tot_ok l 0 h
    exact ⟨h1, by omega⟩
  · intro h
    rw [tot_of l 0 h.1 (by have := h.2; omega)]
theorem Sizes.tot {l : List Int} (h : Sizes l) : tot 0 l = (l.sum, true) := by
  rw [tot_of l 0 h.1 (by have := h.2; omega), Int.zero_add]
theorem Sizes.len {l : List Int} (h : Sizes l) : l.length ≤ 64 := by
  have := sum_ge_len l fun x hx => (h.1 x hx).1
  have := h.2
  omega
theorem tot_no {l : List Int} (h : ¬ Sizes l) : (tot 0 l).2 = false := by
  cases h2 : (tot 0 l).2 with
  | true => exact absurd ((tot_iff l).1 h2) h
  | false => rfl
theorem take_all_step {l : List Int} {k : Nat} {x : Int} {P : Int → Prop} (hx : l[k]? = some x) (h : ∀ y ∈ l.take k, P y) (hp : P x) : ∀ y ∈ l.take (k + 1), P y := by
  intro y hy
  rw [List.take_add_one, hx] at hy
  rcases List.mem_append.1 hy with h1 | h1
  · exact h y h1
  · obtain rfl : y = x := by simpa using h1
    exact hp

set_option maxHeartbeats 1000000 in
theorem right_any {A : Option Addr} {n c : Nat} {l : List Int} {w : World} (h : Sl ic w A n c l) (hn : n ≤ 1000000) :
    Calls Try.prog 58 #[.slice A n c] w fun e w' => e = .returned (.bool (tot 0 l).2) ∧ w = w' := by
  go_enter Try.func58, Try.ntmps58
  go_wp2
  go_loopg [3, 4] n (fun gk s i wr => ∃ (k : Nat) (sum : Int), k + gk = n ∧ i = .int .i64 k ∧ s = .int .i64 sum ∧ 0 ≤ sum ∧ sum ≤ 64 * (k : Int) ∧ Hid (sum = (l.take k).sum ∧ ∀ x ∈ l.take k, 1 ≤ x ∧ x ≤ 64) ∧ w = wr)
  case atStart => exact ⟨0, 0, by omega, rfl, rfl, by omega, by omega, ⟨by simp, by simp⟩, rfl⟩
  case round =>
  obtain ⟨k, sum, hk, rfl, rfl, s0, s1, hT, rfl⟩ := hrel
  by_cases hlt : k < n
  · obtain ⟨b, o, rfl, _, hc⟩ := h.base ic_len (by decide) (by omega)
    have hkl : k < l.length := by rw [h.len]; exact hlt
    have hLen : Hid (l.length = n) := h.len
    obtain ⟨x, hx⟩ : ∃ x, l[k]? = some x := ⟨_, List.getElem?_eq_getElem hkl⟩
    have hX : Hid (l[k]? = some x) := hx
    have c0 : w.cell? ⟨b, o + k, none⟩ = some (.int .i64 x) := by
      have := hc k x 0 _ hx rfl
      simpa using this
    have b0 : (0 : Int) ≤ (k : Int) := by omega
    have b1 : (k : Int) < (n : Int) := by omega
    clear hc hx hkl h
    by_cases h1 : x < 1
    · have hE : Hid ((tot 0 l).2 = false) := tot_no fun hs => by have := hs.1 x (List.mem_of_getElem? hX.out); omega
      clear hT
      go_wp2
      go_ret
      exact ⟨by rw [hE.out]; rfl, rfl⟩
    by_cases h2 : 64 < x
    · have hE : Hid ((tot 0 l).2 = false) := tot_no fun hs => by have := hs.1 x (List.mem_of_getElem? hX.out); omega
      clear hT
      go_wp2
      go_ret
      exact ⟨by rw [hE.out]; rfl, rfl⟩
    by_cases h3 : 64 < k
    · have hE : Hid ((tot 0 l).2 = false) := tot_no fun hs => by have := hs.len; have := hLen.out; omega
      have h3' : (64 : Int) < (k : Int) := by omega
      clear hT
      go_wp2
      go_ret
      exact ⟨by rw [hE.out]; rfl, rfl⟩
    have h3' : ¬ (64 : Int) < (k : Int) := by omega
    have hS : Hid (sum + x = (l.take (k + 1)).sum ∧ ∀ x ∈ l.take (k + 1), 1 ≤ x ∧ x ≤ 64) := ⟨by rw [sum_take_step hX.out, hT.out.1], take_all_step hX.out hT.out.2 ⟨by omega, by omega⟩⟩
    clear hT
    go_wp2
    go_roundg (gk - 1)
    case measure => omega
    case rel => exact ⟨k + 1, sum + x, by omega, by go_num, by go_num, by omega, by push_cast; omega, hS, rfl⟩
  · have hkn : k = n := by omega
    subst hkn
    have hE : Hid ((tot 0 l).2 = decide (sum ≤ 64)) := by
      have ht : l.take k = l := List.take_of_length_le (by rw [h.len]; omega)
      have h2 := hT.out
      rw [ht] at h2
      by_cases hs : sum ≤ 64
      · rw [Hid, (tot_iff l).2 ⟨h2.2, by omega⟩]
        simpa using hs
      · rw [Hid, tot_no (fun q => by have := q.2; omega)]
        simpa using hs
    clear hT
    go_wp2
    go_ret
    exact ⟨by rw [hE.out]; rfl, rfl⟩

set_option maxHeartbeats 1000000 in
theorem rsum_any {A : Option Addr} {n c : Nat} {l : List Int} {w : World} (h : Sl ic w A n c l) (hn : n ≤ 1000000) (hl : ∀ x ∈ l, 1 ≤ x ∧ x ≤ 64) :
    Calls Try.prog 59 #[.slice A n c] w fun e w' => e = .returned (.int .i64 l.sum) ∧ w = w' := by
  have HL : Hid (∀ x ∈ l, 1 ≤ x ∧ x ≤ 64) := hl
  clear hl
  go_enter Try.func59, Try.ntmps59
  go_wp2
  go_loopg [3, 4] n (fun gk s i wr => ∃ (k : Nat) (sum : Int), k + gk = n ∧ i = .int .i64 k ∧ s = .int .i64 sum ∧ 0 ≤ sum ∧ sum ≤ 64 * (k : Int) ∧ Hid (sum = (l.take k).sum) ∧ w = wr)
  case atStart => exact ⟨0, 0, by omega, rfl, rfl, by omega, by omega, by simp [Hid], rfl⟩
  case round =>
  obtain ⟨k, sum, hk, rfl, rfl, s0, s1, hT, rfl⟩ := hrel
  by_cases hlt : k < n
  · obtain ⟨b, o, rfl, _, hc⟩ := h.base ic_len (by decide) (by omega)
    have hkl : k < l.length := by rw [h.len]; exact hlt
    obtain ⟨x, hx⟩ : ∃ x, l[k]? = some x := ⟨_, List.getElem?_eq_getElem hkl⟩
    have c0 : w.cell? ⟨b, o + k, none⟩ = some (.int .i64 x) := by
      have := hc k x 0 _ hx rfl
      simpa using this
    obtain ⟨x1, x2⟩ := HL.out x (List.mem_of_getElem? hx)
    have b0 : (0 : Int) ≤ (k : Int) := by omega
    have b1 : (k : Int) < (n : Int) := by omega
    have hS : Hid (sum + x = (l.take (k + 1)).sum) := by rw [Hid, sum_take_step hx, hT.out]
    clear hT hc hx hkl h
    go_wp2
    go_roundg (gk - 1)
    case measure => omega
    case rel => exact ⟨k + 1, sum + x, by omega, by go_num, by go_num, by omega, by push_cast; omega, hS, rfl⟩
  · have hkn : k = n := by omega
    subst hkn
    have hE : Hid (sum = l.sum) := by rw [Hid, hT.out, List.take_of_length_le (by rw [h.len]; omega)]
    clear hT
    go_wp2
    go_ret
    exact ⟨by rw [hE.out]; rfl, rfl⟩

/-- What Unpack takes out of a word. -/
def cuts (w : Nat) : Int → List Int → List Int
  | _, [] => []
  | a, s :: r => ((Fld.cut w a s : Nat) : Int) :: cuts w (a + s) r
theorem cuts_len (w : Nat) : ∀ (l : List Int) (a : Int), (cuts w a l).length = l.length
  | [], _ => rfl
  | s :: r, a => by simp [cuts, cuts_len w r]
theorem cuts_append (w : Nat) : ∀ (l m : List Int) (a : Int), cuts w a (l ++ m) = cuts w a l ++ cuts w (a + l.sum) m
  | [], m, a => by simp [cuts]
  | s :: r, m, a => by
    rw [List.cons_append, cuts, cuts_append w r m, cuts, List.sum_cons, List.cons_append, show a + s + r.sum = a + (s + r.sum) by omega]
theorem cuts_step (w : Nat) {l : List Int} {k : Nat} {x : Int} (hx : l[k]? = some x) : cuts w 0 (l.take (k + 1)) = cuts w 0 (l.take k) ++ [((Fld.cut w (l.take k).sum x : Nat) : Int)] := by
  rw [List.take_add_one, hx, cuts_append]
  simp [cuts]
theorem cuts_get (w : Nat) {l : List Int} {k : Nat} {x : Int} (hx : l[k]? = some x) : (cuts w 0 l)[k]? = some ((Fld.cut w (l.take k).sum x : Nat) : Int) := by
  have hk := (List.getElem?_eq_some_iff.1 hx).1
  have e : l = l.take (k + 1) ++ l.drop (k + 1) := (List.take_append_drop _ _).symm
  have h1 : cuts w 0 l = cuts w 0 (l.take (k + 1)) ++ cuts w (0 + (l.take (k + 1)).sum) (l.drop (k + 1)) := by
    rw [← cuts_append, ← e]
  rw [h1, cuts_step w hx, List.getElem?_append_left (by simp [cuts_len]; omega), List.getElem?_append_right (by simp [cuts_len]; omega)]
  simp [cuts_len, Nat.min_eq_left (Nat.le_of_lt hk)]
theorem uc_one (l : List Int) : ∀ u ∈ l.flatMap uc, u.oneCell' = true := by
  intro u hu
  obtain ⟨p, _, hp⟩ := List.mem_flatMap.1 hu
  simp only [uc, List.mem_cons, List.not_mem_nil, or_false] at hp
  rw [hp]; rfl
theorem info_u : (Try.prog.info? 22).map (fun i => (i.zero, i.size, i.bytes)) = some (some (.int .u64 0), 1, 8) := by kernel_rfl
theorem elem_u : ∃ i, Elem Try.prog 62 22 i (.int .u64 0) 1 8 := Elem.of Try.underlying62 info_u rfl (by decide)

set_option maxHeartbeats 1000000 in
theorem unpack_ok {A : Option Addr} {n c : Nat} {l : List Int} {w : World} (h : Sl ic w A n c l) (hn : n ≤ 1000000) {m : Int} (hm : U64 m) (hs : Sizes l) (hz : m.toNat &&& (18446744073709551615 - Fld.mask 0 l.sum) = 0) :
    Calls Try.prog 57 #[.slice A n c, .int .u64 m] w fun e w' => ∃ A' c', e = .returned (.tuple #[.slice A' n c', .bool true]) ∧ w'.ownsRow w.heap.size 22 1 (.slice A' n c') n ((cuts m.toNat 0 l).flatMap uc) ∧ Below w.heap.size w w' := by
  obtain ⟨i0, E⟩ := elem_u
  have ht := total_any h hn
  rw [hs.tot] at ht
  have h64 := hs.2
  have h0 := sum_ge_len l fun x hx => (hs.1 x hx).1
  have hand := andNot_mask hm l.sum
  rw [hz] at hand
  have HS : Hid (Sizes l) := hs
  have hsum : 0 ≤ l.sum := by omega
  obtain ⟨S, hS⟩ : ∃ S, l.sum = S := ⟨_, rfl⟩
  rw [hS] at ht h64 hand hsum
  clear hz h0 hs hS
  go_enter Try.func57, Try.ntmps57
  go_wp2_with fail
  refine ht.mono ?_
  rintro e w' ⟨rfl, rfl⟩
  go_wp2_with (go_at_call 46; refine (mask_any 0 S _ (by unfold I64; omega) (by unfold I64; omega)).mono ?_; rintro e w' ⟨rfl, rfl⟩)
  clear hand ht
  go_loopg [8, 9, 28] n (fun gk out a i wr => ∃ (k : Nat) (A' : Option Addr) (c' : Nat) (at_ : Int), k + gk = n ∧ i = .int .i64 k ∧ out = .slice A' k c' ∧ a = .int .i64 at_ ∧ Hid (at_ = (l.take k).sum) ∧ 0 ≤ at_ ∧ at_ ≤ 64 ∧ wr.ownsRow w.heap.size 22 1 (.slice A' k c') k ((cuts m.toNat 0 (l.take k)).flatMap uc) ∧ Below w.heap.size w wr)
  case atStart => exact ⟨0, none, 0, 0, by omega, rfl, rfl, rfl, by simp [Hid], by omega, by omega, World.ownsRow_nil _ _ _ _, brefl w⟩
  case round =>
    obtain ⟨k, A', c', at_, hk, rfl, rfl, rfl, hat, a0, a1, own, hbr⟩ := hrel
    by_cases hlt : k < n
    · obtain ⟨b, o, rfl, _, hc⟩ := h.base ic_len (by decide) (by omega)
      obtain ⟨x, hx⟩ : ∃ x, l[k]? = some x := ⟨_, List.getElem?_eq_getElem (by rw [h.len]; exact hlt)⟩
      have c0 : wr.cell? ⟨b, o + k, none⟩ = some (.int .i64 x) := keep_below (by have := hc k x 0 _ hx rfl; simpa using this) hbr
      obtain ⟨x1, x2⟩ := HS.out.1 x (List.mem_of_getElem? hx)
      have hst := sum_take_step hx
      have hsl : (l.take (k + 1)).sum ≤ 64 := by
        have e : l.sum = (l.take (k + 1)).sum + (l.drop (k + 1)).sum := by rw [← List.sum_append, List.take_append_drop]
        have h1 := sum_ge_len (l.drop (k + 1)) fun x hx => (HS.out.1 x (List.mem_of_mem_drop hx)).1
        have := HS.out.2
        omega
      have hat2 : Hid (at_ + x = (l.take (k + 1)).sum) := by rw [Hid, hst, hat.out]
      have ha2 : at_ + x ≤ 64 := by have := hat2.out; omega
      have HC : Hid (cuts m.toNat 0 (l.take (k + 1)) = cuts m.toNat 0 (l.take k) ++ [((Fld.cut m.toNat at_ x : Nat) : Int)]) := by rw [Hid, hat.out]; exact cuts_step _ hx
      have b0 : (0 : Int) ≤ (k : Int) := by omega
      have b1 : (k : Int) < (n : Int) := by omega
      clear hc hx h hst hsl
      go_wp2_with (first | (go_at_call 47; refine (cut_any m at_ x _ hm (by unfold I64; omega) (by unfold I64; omega)).mono ?_; rintro e w' ⟨rfl, rfl⟩) | (at_builtin; refine wpList_onto (W0 := w) (ys := [.int .u64 ((Fld.cut m.toNat at_ x : Nat) : Int)]) (m := 1) E rfl (.tmp 32) (.tmp 37) rfl (bnew hbr _) rfl (own.alloc _) rfl rfl (Rd.new _ _ _ rfl) (by simp [Value.oneCell']) (by unfold maxLen; omega) (by omega) ?_; intro A8 c8 w8 own8 hb8 _))
      go_roundg (gk - 1)
      case measure => omega
      case rel =>
        refine ⟨k + 1, A8, c8, at_ + x, by omega, by go_num, rfl, by go_num, hat2, by omega, by omega, ?_, hb8⟩
        rw [HC.out, List.flatMap_append]
        exact own8
    · obtain rfl : k = n := by omega
      have HT : Hid (l.take k = l) := by rw [Hid, List.take_of_length_le (by rw [h.len]; omega)]
      have hge : ¬ ((k : Int) < (k : Int)) := by omega
      clear h
      rw [HT.out] at own
      go_wp2
      go_ret2
      exact ⟨A', c', rfl, own, hbr⟩

set_option maxHeartbeats 1000000 in
theorem unpack_no {A : Option Addr} {n c : Nat} {l : List Int} {w : World} (h : Sl ic w A n c l) (hn : n ≤ 1000000) {m : Int} (hm : U64 m) (hs : ¬ (Sizes l ∧ m.toNat &&& (18446744073709551615 - Fld.mask 0 l.sum) = 0)) :
    Calls Try.prog 57 #[.slice A n c, .int .u64 m] w fun e w' => e = .returned (.tuple #[.slice none 0 0, .bool false]) ∧ w = w' := by
  have ht := total_any h hn
  by_cases h1 : Sizes l
  · have hz : ¬ m.toNat &&& (18446744073709551615 - Fld.mask 0 l.sum) = 0 := fun e => hs ⟨h1, e⟩
    rw [h1.tot] at ht
    have h64 := h1.2
    have h0 := sum_ge_len l fun x hx => (h1.1 x hx).1
    have hand := andNot_mask hm l.sum
    have hsum : 0 ≤ l.sum := by omega
    have hz' : (((m.toNat &&& (18446744073709551615 - Fld.mask 0 l.sum) : Nat) : Int) != 0) = true := by rw [bne_iff_ne]; omega
    obtain ⟨Z, hZ⟩ : ∃ Z : Int, ((m.toNat &&& (18446744073709551615 - Fld.mask 0 l.sum) : Nat) : Int) = Z := ⟨_, rfl⟩
    rw [hZ] at hand hz'
    obtain ⟨S, hS⟩ : ∃ S, l.sum = S := ⟨_, rfl⟩
    rw [hS] at ht h64 hand hsum
    clear hz h0 hs hS h1 hZ
    go_enter Try.func57, Try.ntmps57
    go_wp2_with fail
    refine ht.mono ?_
    rintro e w' ⟨rfl, rfl⟩
    go_wp2_with (go_at_call 46; refine (mask_any 0 S _ (by unfold I64; omega) (by unfold I64; omega)).mono ?_; rintro e w' ⟨rfl, rfl⟩)
    go_ret2
    exact ⟨rfl, rfl⟩
  · have h2 := tot_no h1
    obtain ⟨T, hT⟩ : ∃ T, tot 0 l = T := ⟨_, rfl⟩
    rw [hT] at ht h2
    obtain ⟨T1, T2⟩ := T
    obtain rfl : T2 = false := h2
    clear h1 hs hT
    go_enter Try.func57, Try.ntmps57
    go_wp2_with fail
    refine ht.mono ?_
    rintro e w' ⟨rfl, rfl⟩
    go_wp2
    go_ret2
    exact ⟨rfl, rfl⟩
end Go.Proofs.Ytmjihjbedgbhbaa
