/- A reader of bytes. -/
import Derived.Test.YtknngjdcbldmgaaDoorScrU
namespace Go.Proofs.YtknngjdcbldmgaaDoor
set_option linter.unusedVariables false
set_option linter.unusedSimpArgs false
open Go.RowKit

def b8l (x : Int) : List Value := [b8 x]
theorem b8l_len (x : Int) : (b8l x).length = 1 := rfl
theorem slice_from {P : Program} (t e : TypeId) (A : Option Addr) (n c m : Nat) (w : World) (hm : 0 < m) (hn : m ≤ n) (hc : n ≤ c) (hA : A ≠ none) (ht : P.underlying t = some (.slice e)) {z : Value} {s b : Nat} (hi : (P.info? e).map (fun i => (i.zero, i.size, i.bytes)) = some (some z, s, b)) :
    (Instr.slice t (.slice A n c) (some (.int .i64 (m : Int))) none none).run P w = .ok (.slice (if c = m then A else A.map (·.add (m * s))) (n - m) (c - m)) w := by
  obtain ⟨i, hj, h0, h1, h2⟩ := info_parts hi
  cases A with
  | none => exact absurd rfl hA
  | some ad =>
    have h0' : (0 : Int) ≤ (m : Int) := by omega
    have h1' : (m : Int) ≤ (n : Int) := by omega
    subst h1
    by_cases hc1 : c = m
    · subst hc1
      obtain rfl : n = c := by omega
      simp [Instr.slice, go_sem, run_underlying ht, sizeOf, typeInfo, hj]
    · simp [Instr.slice, go_sem, run_underlying ht, sizeOf, typeInfo, hj, h0', h1', hn, hc1, Nat.sub_eq_zero_iff_le, show ¬ c ≤ m by omega]
theorem Sl.rest_ {w : World} {A : Option Addr} {n c m : Nat} {l : List Int} (h : Sl b8l w A n c l) (hm : 0 < m) (hn : m ≤ n) : Sl b8l w (if c = m then A else A.map (·.add (m * 1))) (n - m) (c - m) (l.drop m) := by
  have hl := h.len
  have hcp := h.cap
  obtain ⟨b, o', rfl, _, _⟩ := h.base b8l_len (by decide) (by omega)
  refine ⟨by rw [List.length_drop, hl], by omega, ?_, fun q => by split at q <;> cases q⟩
  by_cases hc : c = m
  · rw [if_pos hc, List.drop_eq_nil_of_le (by omega)]
    exact Rd.nil _ _
  · rw [if_neg hc]
    refine Rd.mk_ fun j u hj => ?_
    have h1 : (l.flatMap b8l)[m + j]? = some u := by
      have e : ∀ l : List Int, l.flatMap b8l = l.map b8 := fun l => by induction l with
        | nil => rfl
        | cons a t ih => rw [List.flatMap_cons, ih]; rfl
      rw [e] at hj ⊢
      rw [List.getElem?_map, List.getElem?_drop] at hj
      rw [List.getElem?_map]
      exact hj
    have h2 := h.rd.some_ _ _ h1
    show w.cell? (((⟨b, o', none⟩ : Addr).add (m * 1)).add j) = some u
    rw [Addr.add_mid] at h2
    rw [Addr.add_mid, Addr.add_mid]
    rw [show o' + m * 1 + j = o' + (m + j) by omega]
    exact h2
/-- A reader, with the bytes that are left. -/
def RB (w : World) (B p : Nat) (l : List Int) : Prop := ∃ A n c, Blk w p 78 #[.slice A n c] ∧ Sl b8l w A n c l ∧ (l ≠ [] → ∀ ad, A = some ad → ad.block ≠ p ∧ ad.block < B) ∧ (∀ x, x ∈ l → 0 ≤ x ∧ x < 256) ∧ p < B
theorem RB.keeps {w w' : World} {B p : Nat} {l : List Int} {S : Nat → Prop} (h : RB w B p l) (hk : Keeps S w w') (hS : ∀ b, b < B → ¬ S b) : RB w' B p l := by
  obtain ⟨A, n, c, h1, h2, h3, h4, h5⟩ := h
  refine ⟨A, n, c, hk.blk h1 (hS p h5), ?_, h3, h4, h5⟩
  by_cases he : l = []
  · subst he
    exact ⟨h2.len, h2.cap, Rd.nil _ _, h2.nil_⟩
  · exact hk.sl h2 (fun ad e => hS _ (h3 he ad e).2)
def numR (l : List Int) : Int := l.foldr (fun x n => x + 256 * n) 0
def Pan (n : Int) (e : Ending) : Prop := e = .panicked [{ v := .iface 35 (.int .i64 n), recovered := false }]
set_option maxHeartbeats 4000000 in
set_option maxRecDepth 100000 in
theorem take_end {w : World} {B p : Nat} {l : List Int} {sz : Nat} (h : RB w B p l) (hl : l.length < sz) (hs : sz ≤ 8) : Calls Tryd.prog 71 #[.pointer (some ⟨p, 0, none⟩), .int .i64 sz] w fun e w' => Pan 4 e ∧ w = w' := by
  obtain ⟨A, n, c, hB, hS, _, _, _⟩ := h
  have x0 := hB.cell 0
  have hz := hB.lt
  have hn : (n : Int) < (sz : Int) := by have := hS.len; omega
  clear hB hS hl
  go_enter Tryd.func71, Tryd.ntmps71
  go_wp2_with fail
  exact ⟨rfl, rfl, rfl⟩
theorem numR_lt : ∀ l : List Int, (∀ x, x ∈ l → 0 ≤ x ∧ x < 256) → 0 ≤ numR l ∧ numR l < 256 ^ l.length
  | [], _ => by simp [numR]
  | a :: t, h => by
    have h1 := h a (by simp)
    have h2 := numR_lt t (fun x hx => h x (by simp [hx]))
    have e : numR (a :: t) = a + 256 * numR t := rfl
    rw [e, List.length_cons, Int.pow_succ]
    omega
theorem numR_snoc : ∀ (l : List Int) (y : Int), numR (l ++ [y]) = numR l + y * 256 ^ l.length
  | [], y => by simp [numR]
  | a :: t, y => by
    have e1 : numR (a :: t ++ [y]) = a + 256 * numR (t ++ [y]) := rfl
    have e2 : numR (a :: t) = a + 256 * numR t := rfl
    rw [e1, e2, numR_snoc t y, List.length_cons, Int.pow_succ, Int.mul_add, ← Int.add_assoc]
    congr 1
    rw [← Int.mul_assoc, Int.mul_comm 256 y, Int.mul_assoc, Int.mul_comm 256]
theorem setb {x y : Int} {k : Nat} (hk : k < 8) (hx : 0 ≤ x ∧ x < 256 ^ k) (hy : 0 ≤ y ∧ y < 256) : ((Fld.set x.toNat (8 * (k : Int)) 8 y.toNat : Nat) : Int) = x + y * 256 ^ k := by
  have e0 : (256 : Nat) ^ k = 2 ^ (8 * k) := by rw [Nat.pow_mul]
  have h0 : x.toNat < 2 ^ (8 * k) := by
    have h1 : ((x.toNat : Nat) : Int) = x := Int.toNat_of_nonneg hx.1
    have h2 : ((256 ^ k : Nat) : Int) = (256 : Int) ^ k := by simp
    have h3 : ((x.toNat : Nat) : Int) < ((256 ^ k : Nat) : Int) := by rw [h1, h2]; exact hx.2
    rw [← e0]
    omega
  have h := Fld.set_put (w := x.toNat) (n := y.toNat) (a := 8 * k) (s := 8) h0 (by omega) (by omega)
  rw [show (((8 * k : Nat)) : Int) = 8 * (k : Int) by omega, show ((8 : Nat) : Int) = 8 by rfl] at h
  rw [h, ← e0]
  have h1 : ((x.toNat : Nat) : Int) = x := Int.toNat_of_nonneg hx.1
  have h2 : ((y.toNat : Nat) : Int) = y := Int.toNat_of_nonneg hy.1
  simp [h1, h2]
set_option maxHeartbeats 4000000 in
set_option maxRecDepth 100000 in
theorem take_some {w : World} {B p : Nat} {l : List Int} {sz : Nat} (h : RB w B p l) (hl : sz ≤ l.length) (h0 : 0 < sz) (hs : sz ≤ 8) (hll : l.length ≤ 1000000) : Calls Tryd.prog 71 #[.pointer (some ⟨p, 0, none⟩), .int .i64 sz] w fun e w' => e = .returned (.int .u64 (numR (l.take sz))) ∧ RB w' B p (l.drop sz) ∧ Keeps (fun b => b = p) w w' := by
  obtain ⟨A, n, c, hB, hS, hne, hby, hpB⟩ := h
  have hln0 := hl
  have hn : n = l.length := hS.len.symm
  obtain ⟨b, o', hA, _, hce⟩ := hS.base b8l_len (by decide) (by omega)
  have x0 := hB.cell 0
  have f0 := hB.frozen 0
  have hz := hB.lt
  have hnn : decide (n < sz) = false := decide_eq_false (by omega)
  have hsl := fun (W : World) => slice_from (P := Tryd.prog) 39 5 A n c sz W h0 (by omega) hS.cap (by rw [hA]; simp) Tryd.underlying39 (z := .int .u8 0) (s := 1) (b := 1) (by kernel_rfl)
  have HR := Lib.hid (hS.rest_ h0 (show sz ≤ n by omega))
  have HN := Lib.hid hn
  have hnl : n ≤ 1000000 := by omega
  have hszn : sz ≤ n := by omega
  obtain ⟨A', hA'⟩ : ∃ A', (if c = sz then A else A.map (·.add (sz * 1))) = A' := ⟨_, rfl⟩
  have HNE : Hid (∀ ad, A' = some ad → ad.block ≠ p ∧ ad.block < B) := by
    intro ad q
    rw [← hA', hA] at q
    have := hne (by rintro rfl; simp at hln0; omega) _ hA
    split at q <;> (cases q; simpa [ad_block] using this)
  rw [hA'] at hsl HR
  have HBY := Lib.hid hby
  have HB := Lib.hid hB
  have HC := Lib.hid hce
  have HSN := Lib.hid hS
  subst hA
  clear hA' hB hS hne hby hce hn hl
  go_enter Tryd.func71, Tryd.ntmps71
  go_wp2_with fail
  go_loopg [5, 16] sz (fun gk s5 i wr => ∃ (k : Nat) (nk : Int), k + gk = sz ∧ i = .int .i64 k ∧ s5 = .int .u64 nk ∧ w = wr ∧ Hid (numR (l.take k) = nk))
  case atStart => exact ⟨0, 0, by omega, rfl, rfl, rfl, rfl⟩
  case round =>
    obtain ⟨k, nk, hk, rfl, rfl, rfl, hnk⟩ := hrel
    by_cases hlt : k < sz
    · obtain ⟨y, hy⟩ : ∃ y, l[k]? = some y := ⟨l[k]'(by have := HN.out; omega), List.getElem?_eq_getElem (i := k) _⟩
      have cy : w.cell? ⟨b, o' + k, none⟩ = some (.int .u8 y) := by have h0 := HC.out k y 0 _ hy rfl; simpa [b8] using h0
      have hyb := HBY.out y (List.mem_of_getElem? hy)
      have hxb := numR_lt (l.take k) (fun x hx => HBY.out x (List.mem_of_mem_take hx))
      have hlk : (l.take k).length = k := by rw [List.length_take]; have := HN.out; omega
      rw [hlk] at hxb
      have HT : Hid (numR (l.take (k + 1)) = numR (l.take k) + y * 256 ^ k) := by rw [Hid, List.take_add_one, hy, Option.toList_some, numR_snoc, hlk]
      have hxu : U64 (numR (l.take k)) := ⟨hxb.1, Int.lt_of_lt_of_le hxb.2 (by
        rcases (by omega : k = 0 ∨ k = 1 ∨ k = 2 ∨ k = 3 ∨ k = 4 ∨ k = 5 ∨ k = 6 ∨ k = 7) with rfl | rfl | rfl | rfl | rfl | rfl | rfl | rfl <;> decide)⟩
      have hset := fun W => set_any (numR (l.take k)) (8 * (k : Int)) 8 y W hxu (by unfold I64; omega) (by unfold I64; omega) (by unfold U64; omega)
      rw [setb (by omega) hxb hyb, ← HT.out] at hset
      have b0 : (0 : Int) ≤ (k : Int) := by omega
      have b1 : (k : Int) < (sz : Int) := by omega
      have b2 : (k : Int) < (n : Int) := by omega
      obtain ⟨hy1, hy2⟩ := hyb
      obtain ⟨nk1, hnk1⟩ : ∃ nk1, numR (l.take (k + 1)) = nk1 := ⟨_, rfl⟩
      rw [hnk1, hnk.out] at hset
      have HK1 := Lib.hid hnk1
      clear hxb hxu HT hlk hy hnk1 hnk
      go_wp2_with (go_at_call 31; refine (hset _).mono ?_; rintro e w7 ⟨rfl, rfl⟩)
      go_roundg (gk - 1)
      case measure => omega
      case rel => exact ⟨k + 1, nk1, by omega, by go_num, rfl, rfl, HK1⟩
    · have t9 : decide (k < sz) = false := decide_eq_false (by omega)
      obtain rfl : k = sz := by omega
      have D := HB.out.set_ 0 (.slice A' (n - k) (c - k))
      have HD := Lib.hid D
      clear D
      go_wp2_with fail
      go_ret
      have kk : Keeps (fun b => b = p) w (w.setCell ⟨p, 0, none⟩ (.slice A' (n - k) (c - k))) := (Keeps.refl (fun b => b = p) w).setCell (p := ⟨p, 0, none⟩) (fun _ => rfl) _
      exact ⟨by rw [hnk.out]; rfl, ⟨A', n - k, c - k, HD.out, kk.sl HR.out (fun ad e => (HNE.out ad e).1), fun _ => HNE.out, fun x hx => HBY.out x (List.mem_of_mem_drop hx), hpB⟩, kk⟩
end Go.Proofs.YtknngjdcbldmgaaDoor
