/- Scripts, woven: the document's walk, where both have one configuration. -/
import Derived.Test.YtijffncgokcidaaPurgeRA
namespace Go.Proofs.Ytijffncgokcidaa
set_option linter.unusedVariables false
set_option linter.unusedSimpArgs false
open Go.RowKit

/-- The running greatest of the places; the places. -/
def lastP (al : List Int) : Nat → Int
  | 0 => 0
  | k + 1 => match al[k]? with
    | some a => if lastP al k < a then a else lastP al k
    | none => lastP al k
def plcs (al : List Int) (k : Nat) : List Int := (List.range k).map fun j => lastP al (j + 1)
theorem plcs_len (al : List Int) (k : Nat) : (plcs al k).length = k := by simp [plcs]
theorem plcs_succ (al : List Int) (k : Nat) : plcs al (k + 1) = plcs al k ++ [lastP al (k + 1)] := by
  unfold plcs
  rw [List.range_succ, List.map_append]
  rfl
theorem plcs_get (al : List Int) {k j : Nat} (h : j < k) : (plcs al k)[j]? = some (lastP al (j + 1)) := by
  unfold plcs
  rw [List.getElem?_map, List.getElem?_range h]
  rfl
theorem last_yes {al : List Int} {k : Nat} {a : Int} (h : al[k]? = some a) (h1 : lastP al k < a) : lastP al (k + 1) = a := by
  rw [lastP, h]
  exact if_pos h1
theorem last_no {al : List Int} {k : Nat} (h : ∀ a, al[k]? = some a → ¬ lastP al k < a) : lastP al (k + 1) = lastP al k := by
  rw [lastP]
  cases hk : al[k]? with
  | none => rfl
  | some a => exact if_neg (h a hk)
theorem last_up (al : List Int) (k : Nat) : lastP al k ≤ lastP al (k + 1) := by
  rw [lastP]
  split
  · split <;> omega
  · exact Int.le_refl _
/-- The document's test is the other one's negation. -/
theorem step_doc {al : List Int} {x : List En} {i k : Nat} (hi : i ≤ x.length) (hp : i < x.length → lastP al k ≤ (i : Int)) (h : lastP al (k + 1) ≤ (i : Int) ∨ i = x.length) : stepB al x i k = false := step_no fun a ha ⟨h1, h2⟩ => by
  rcases h with h | h
  · rw [lastP, ha] at h
    have := hp h2
    dsimp only at h
    rw [if_pos (by omega)] at h
    omega
  · omega
theorem step_doc' {al : List Int} {x : List En} {i k : Nat} (hi : i < x.length) (hp : lastP al k ≤ (i : Int)) (h : (i : Int) < lastP al (k + 1)) : stepB al x i k = true := by
  cases ha : al[k]? with
  | none => rw [last_no (fun a h => by rw [ha] at h; cases h)] at h; omega
  | some a =>
    refine step_yes ha ?_ hi
    rw [lastP, ha] at h
    dsimp only at h
    split at h <;> omega
theorem elem_it : ∃ i, Elem Try.prog 36 3 i (.int .i64 0) 1 8 := Elem.of Try.underlying36 (by kernel_rfl) rfl (by decide)
set_option maxHeartbeats 16000000 in
set_option maxRecDepth 100000 in
theorem rweave_b {w : World} {c : Cf} {us us2 : List Value} {ps ps2 : List (List CV)} {EA EA2 AA : Option Addr} {en ec en2 ec2 an ad : Nat} {es es2 : List En} {al : List Int} (hP : PIn (fun _ => False) w us ps) (hE : Sl enc_ w EA en ec es) (hP2 : PIn (fun _ => False) w us2 ps2) (hE2 : Sl enc_ w EA2 en2 ec2 es2) (hAl : Sl itc w AA an ad al) (hen : en ≤ 1000000) (hen2 : en2 ≤ 1000000) (han : an ≤ 1000000) (lv : Int) :
    Calls Try.prog 15 #[.agg (scc c us (.slice EA en ec)).toArray, .agg (scc c us2 (.slice EA2 en2 ec2)).toArray, .int .i64 lv, .slice AA an ad] w fun e w' => ∃ us' A m d, e = .returned (.agg (scc c us' (.slice A m d)).toArray) ∧ PIn (fun _ => False) w' us' (wvP c ps ps2 lv) ∧ Sl enc_ w' A m d (wvE c es es2 lv al) ∧ Below w.heap.size w w' := by
  obtain ⟨i1, E2x⟩ := elem_en
  obtain ⟨i2, EI⟩ := elem_it
  have hne : ∀ w, (binOp .neq 24 (.agg #[.int .i64 c.lv, .int .i64 c.th, .int .i64 c.o0, .int .i64 c.o1, .int .i64 c.o2, .int .i64 c.o3, .int .i64 c.o4, .int .i64 c.o5, .int .i64 c.o6, .int .i64 c.o7, .int .i64 c.sl, .int .i64 c.li, .int .i64 c.ge, .int .i64 c.qu]) (.agg #[.int .i64 c.lv, .int .i64 c.th, .int .i64 c.o0, .int .i64 c.o1, .int .i64 c.o2, .int .i64 c.o3, .int .i64 c.o4, .int .i64 c.o5, .int .i64 c.o6, .int .i64 c.o7, .int .i64 c.sl, .int .i64 c.li, .int .i64 c.ge, .int .i64 c.qu])).run Try.prog w = .ok (.bool false) w := fun w => (neF c c w).trans (by rw [decide_eq_true rfl]; rfl)
  have h8 := hP.u8
  have h82 := hP2.u8
  have hi0 := info_scc (c := c) (us := us) (ev := .slice EA en ec) h8
  have hi1 := info_scc (c := c) (us := us2) (ev := .slice EA2 en2 ec2) h82
  go_enter Try.func15, Try.ntmps15
  go_upto_region 1 with (fail)
  obtain ⟨W0, hW0, B0, B1, B2, kb, hz0⟩ : ∃ W0, ((w.alloc (.cells (scc c us (.slice EA en ec)).toArray 29)).alloc (.cells (scc c us2 (.slice EA2 en2 ec2)).toArray 29)).alloc (.cells #[.int .i64 0, .int .i64 0, .int .i64 0, .int .i64 0, .int .i64 0, .int .i64 0, .int .i64 0, .int .i64 0, .int .i64 0, .int .i64 0, .int .i64 0, .int .i64 0, .int .i64 0, .int .i64 0, .slice none 0 0, .slice none 0 0, .slice none 0 0, .slice none 0 0, .slice none 0 0, .slice none 0 0, .slice none 0 0, .slice none 0 0, .slice none 0 0] 29) = W0 ∧ Blk W0 w.heap.size 29 (scc c us (.slice EA en ec)).toArray ∧ Blk W0 (w.heap.size + 1) 29 (scc c us2 (.slice EA2 en2 ec2)).toArray ∧ Blk W0 (w.heap.size + 1 + 1) 29 (scc cf0 nil8 (.slice none 0 0)).toArray ∧ Below w.heap.size w W0 ∧ W0.heap.size = w.heap.size + 1 + 1 + 1 := ⟨_, rfl, ((Blk.new _ _ _).alloc _).alloc _, by have := (Blk.new (w.alloc (.cells (scc c us (.slice EA en ec)).toArray 29)) 29 (scc c us2 (.slice EA2 en2 ec2)).toArray).alloc (.cells #[.int .i64 0, .int .i64 0, .int .i64 0, .int .i64 0, .int .i64 0, .int .i64 0, .int .i64 0, .int .i64 0, .int .i64 0, .int .i64 0, .int .i64 0, .int .i64 0, .int .i64 0, .int .i64 0, .slice none 0 0, .slice none 0 0, .slice none 0 0, .slice none 0 0, .slice none 0 0, .slice none 0 0, .slice none 0 0, .slice none 0 0, .slice none 0 0] 29); rwa [World.size_alloc] at this, by have := Blk.new ((w.alloc (.cells (scc c us (.slice EA en ec)).toArray 29)).alloc (.cells (scc c us2 (.slice EA2 en2 ec2)).toArray 29)) 29 (scc cf0 nil8 (.slice none 0 0)).toArray; rw [World.size_alloc, World.size_alloc] at this; exact this, bnew (bnew (bnew (brefl w) _) _) _, by simp⟩
  rw [hW0]
  have HZ0 := Lib.hid hz0
  clear hW0 hz0 h8 h82
  have hc1 := rkeepf_to (w := W0) (c := c) lv (hP.old.below kb) (hE.below kb) hen
  have tok1 : True := trivial; have tok2 : True := trivial; have tok3 : True := trivial
  go_upto_region 2 with (first | (have _t := tok1; refine wpList_load_row (o := ⟨some 18, _, _, _, _, _⟩) rfl 29 (.tmp 4) rfl w.heap.size rfl 29 _ _ _ B0 Try.underlying29 rfl hi0 ?_; clear tok1 _t) | (have _t := tok2; go_at_call 10; refine hc1.mono ?_; rintro e w1 ⟨u1, A1, m1, d1, rfl, P1, S1, N1, hb1⟩; have hv1 := P1.u8; have hinf1 := info_scc (c := c) (us := u1) (ev := .slice A1 m1 d1) hv1; have hold1 : (scc cf0 nil8 (.slice none 0 0)).toArray.size = (scc c u1 (.slice A1 m1 d1)).toArray.size := (by rw [List.size_toArray, List.size_toArray, scc_len hv1, scc_len rfl]); have hone1 := scc_one (c := c) P1 A1 m1 d1; clear hv1 tok2 _t) | (have _t := tok3; refine wpList_store_row (o := ⟨none, .store 29 (.tmp 9) (.tmp 20), _, _, _, _⟩) rfl 29 (.tmp 9) (.tmp 20) rfl w1.heap.size _ rfl rfl 29 _ (Blk.new w1 _ _) hinf1 hold1 hone1 ?_; clear tok3 _t))
  have hz1 := hb1.size
  have kw1 := bnext kb hb1
  obtain ⟨W1, hW1, C0, C1, C2, C3, kk1, hzW1⟩ : ∃ W1, (w1.alloc (.cells #[.int .i64 0, .int .i64 0, .int .i64 0, .int .i64 0, .int .i64 0, .int .i64 0, .int .i64 0, .int .i64 0, .int .i64 0, .int .i64 0, .int .i64 0, .int .i64 0, .int .i64 0, .int .i64 0, .slice none 0 0, .slice none 0 0, .slice none 0 0, .slice none 0 0, .slice none 0 0, .slice none 0 0, .slice none 0 0, .slice none 0 0, .slice none 0 0] 29)).setRow w1.heap.size (scc c u1 (.slice A1 m1 d1)).toArray = W1 ∧ Blk W1 w.heap.size 29 (scc c us (.slice EA en ec)).toArray ∧ Blk W1 (w.heap.size + 1) 29 (scc c us2 (.slice EA2 en2 ec2)).toArray ∧ Blk W1 (w.heap.size + 1 + 1) 29 (scc cf0 nil8 (.slice none 0 0)).toArray ∧ Blk W1 w1.heap.size 29 (scc c u1 (.slice A1 m1 d1)).toArray ∧ Keeps (fun b => w1.heap.size ≤ b) w1 W1 ∧ W1.heap.size = w1.heap.size + 1 := by
    have kr := keeps_row (w1.alloc (.cells #[.int .i64 0, .int .i64 0, .int .i64 0, .int .i64 0, .int .i64 0, .int .i64 0, .int .i64 0, .int .i64 0, .int .i64 0, .int .i64 0, .int .i64 0, .int .i64 0, .int .i64 0, .int .i64 0, .slice none 0 0, .slice none 0 0, .slice none 0 0, .slice none 0 0, .slice none 0 0, .slice none 0 0, .slice none 0 0, .slice none 0 0, .slice none 0 0] 29)) w1.heap.size (scc c u1 (.slice A1 m1 d1)).toArray
    have l0 := (B0.below_ hb1).lt
    have l1 := (B1.below_ hb1).lt
    have l2 := (B2.below_ hb1).lt
    refine ⟨_, rfl, kr.blk ((B0.below_ hb1).alloc _) (by omega), kr.blk ((B1.below_ hb1).alloc _) (by omega), kr.blk ((B2.below_ hb1).alloc _) (by omega), (Blk.new w1 29 #[.int .i64 0, .int .i64 0, .int .i64 0, .int .i64 0, .int .i64 0, .int .i64 0, .int .i64 0, .int .i64 0, .int .i64 0, .int .i64 0, .int .i64 0, .int .i64 0, .int .i64 0, .int .i64 0, .slice none 0 0, .slice none 0 0, .slice none 0 0, .slice none 0 0, .slice none 0 0, .slice none 0 0, .slice none 0 0, .slice none 0 0, .slice none 0 0]).row _, ((Keeps.refl (fun b => w1.heap.size ≤ b) w1).alloc _).trans_ (kr.mono fun b h _ => by show _ ≤ _; omega), by simp [World.setRow]⟩
  have hq3 : w.heap.size + 1 + 1 < w1.heap.size := by have := HZ0.out; omega
  rw [hW1]
  clear hW1 B0 B1 B2 hc1 kb
  have HZW1 := Lib.hid hzW1
  clear hzW1
  have P1 := P1.weak (S' := fun b => w.heap.size ≤ b) (fun b h => .inl h)
  have P1 := P1.keeps (kk1.mono fun b h _ => by show _ ≤ b; omega)
  have S1o := S1
  have S1 := S1.keepS enc__len kk1 (fun _ ad _ hlt q => by omega) (by decide)
  have kb1 := kk1.below kw1 kw1.size (fun x hx _ => by omega)
  have r0 : W1.rangeAt w.heap.size 0 [.int .i64 c.lv, .int .i64 c.th, .int .i64 c.o0, .int .i64 c.o1, .int .i64 c.o2, .int .i64 c.o3, .int .i64 c.o4, .int .i64 c.o5, .int .i64 c.o6, .int .i64 c.o7, .int .i64 c.sl, .int .i64 c.li, .int .i64 c.ge, .int .i64 c.qu] := range_blk C0 0 (scc_conf c us _)
  have r1 : W1.rangeAt (w.heap.size + 1) 0 [.int .i64 c.lv, .int .i64 c.th, .int .i64 c.o0, .int .i64 c.o1, .int .i64 c.o2, .int .i64 c.o3, .int .i64 c.o4, .int .i64 c.o5, .int .i64 c.o6, .int .i64 c.o7, .int .i64 c.sl, .int .i64 c.li, .int .i64 c.ge, .int .i64 c.qu] := range_blk C1 0 (scc_conf c us2 _)
  have hc2 := rkeepf_ab (w := W1) (c := c) lv (hP2.old.below kb1) (hE2.below kb1) hen2
  have tok1 : True := trivial; have tok2 : True := trivial; have tok3 : True := trivial; have tok4 : True := trivial; have tok5 : True := trivial
  go_upto_region 5 with (first | (have _t := tok1; refine wpList_load_mid (op := ⟨some 22, _, _, _, _, _⟩) rfl 24 (.tmp 21) rfl w.heap.size 0 rfl [.int .i64 c.lv, .int .i64 c.th, .int .i64 c.o0, .int .i64 c.o1, .int .i64 c.o2, .int .i64 c.o3, .int .i64 c.o4, .int .i64 c.o5, .int .i64 c.o6, .int .i64 c.o7, .int .i64 c.sl, .int .i64 c.li, .int .i64 c.ge, .int .i64 c.qu] _ r0 Try.underlying24 rfl (by kernel_rfl) ?_; clear tok1 _t) | (have _t := tok2; refine wpList_load_mid (op := ⟨some 24, _, _, _, _, _⟩) rfl 24 (.tmp 23) rfl (w.heap.size + 1) 0 rfl [.int .i64 c.lv, .int .i64 c.th, .int .i64 c.o0, .int .i64 c.o1, .int .i64 c.o2, .int .i64 c.o3, .int .i64 c.o4, .int .i64 c.o5, .int .i64 c.o6, .int .i64 c.o7, .int .i64 c.sl, .int .i64 c.li, .int .i64 c.ge, .int .i64 c.qu] _ r1 Try.underlying24 rfl (by kernel_rfl) ?_; clear tok2 _t) | (have _t := tok3; refine wpList_load_row (o := ⟨some 27, _, _, _, _, _⟩) rfl 29 (.tmp 5) rfl (w.heap.size + 1) rfl 29 _ _ _ C1 Try.underlying29 rfl hi1 ?_; clear tok3 _t) | (have _t := tok4; go_at_call 10; refine hc2.mono ?_; rintro e w2 ⟨u2, A2, m2, d2, rfl, P2, S2, N2, hb2⟩; have hv2 := P2.u8; have hinf2 := info_scc (c := c) (us := u2) (ev := .slice A2 m2 d2) hv2; have hold2 : (scc cf0 nil8 (.slice none 0 0)).toArray.size = (scc c u2 (.slice A2 m2 d2)).toArray.size := (by rw [List.size_toArray, List.size_toArray, scc_len hv2, scc_len rfl]); have hone2 := scc_one (c := c) P2 A2 m2 d2; clear hv2 tok4 _t) | (have _t := tok5; refine wpList_store_row (o := ⟨none, .store 29 (.tmp 10) (.tmp 29), _, _, _, _⟩) rfl 29 (.tmp 10) (.tmp 29) rfl w2.heap.size _ rfl rfl 29 _ (Blk.new w2 _ _) hinf2 hold2 hone2 ?_; clear tok5 _t))
  have hz2 := hb2.size
  have kw2 := bnext kb1 hb2
  obtain ⟨W2, hW2, D0, D2, D3, D4, kk2⟩ : ∃ W2, (w2.alloc (.cells #[.int .i64 0, .int .i64 0, .int .i64 0, .int .i64 0, .int .i64 0, .int .i64 0, .int .i64 0, .int .i64 0, .int .i64 0, .int .i64 0, .int .i64 0, .int .i64 0, .int .i64 0, .int .i64 0, .slice none 0 0, .slice none 0 0, .slice none 0 0, .slice none 0 0, .slice none 0 0, .slice none 0 0, .slice none 0 0, .slice none 0 0, .slice none 0 0] 29)).setRow w2.heap.size (scc c u2 (.slice A2 m2 d2)).toArray = W2 ∧ Blk W2 w.heap.size 29 (scc c us (.slice EA en ec)).toArray ∧ Blk W2 (w.heap.size + 1 + 1) 29 (scc cf0 nil8 (.slice none 0 0)).toArray ∧ Blk W2 w1.heap.size 29 (scc c u1 (.slice A1 m1 d1)).toArray ∧ Blk W2 w2.heap.size 29 (scc c u2 (.slice A2 m2 d2)).toArray ∧ Keeps (fun b => w2.heap.size ≤ b) w2 W2 := by
    have kr := keeps_row (w2.alloc (.cells #[.int .i64 0, .int .i64 0, .int .i64 0, .int .i64 0, .int .i64 0, .int .i64 0, .int .i64 0, .int .i64 0, .int .i64 0, .int .i64 0, .int .i64 0, .int .i64 0, .int .i64 0, .int .i64 0, .slice none 0 0, .slice none 0 0, .slice none 0 0, .slice none 0 0, .slice none 0 0, .slice none 0 0, .slice none 0 0, .slice none 0 0, .slice none 0 0] 29)) w2.heap.size (scc c u2 (.slice A2 m2 d2)).toArray
    have l0 := (C0.below_ hb2).lt
    have l2 := (C2.below_ hb2).lt
    have l3 := (C3.below_ hb2).lt
    exact ⟨_, rfl, kr.blk ((C0.below_ hb2).alloc _) (by omega), kr.blk ((C2.below_ hb2).alloc _) (by omega), kr.blk ((C3.below_ hb2).alloc _) (by omega), (Blk.new w2 29 #[.int .i64 0, .int .i64 0, .int .i64 0, .int .i64 0, .int .i64 0, .int .i64 0, .int .i64 0, .int .i64 0, .int .i64 0, .int .i64 0, .int .i64 0, .int .i64 0, .int .i64 0, .int .i64 0, .slice none 0 0, .slice none 0 0, .slice none 0 0, .slice none 0 0, .slice none 0 0, .slice none 0 0, .slice none 0 0, .slice none 0 0, .slice none 0 0]).row _, ((Keeps.refl (fun b => w2.heap.size ≤ b) w2).alloc _).trans_ (kr.mono fun b h _ => by show _ ≤ _; omega)⟩
  rw [hW2]
  have hq1 : w1.heap.size < w2.heap.size := by have := HZW1.out; omega
  have P1 := (P1.below hb2).keeps (kk2.mono fun b h _ => by show _ ≤ b; omega)
  have P2 := (P2.weak (S' := (fun b => w.heap.size ≤ b)) (fun b h => .inl h)).keeps (kk2.mono fun b h _ => by show _ ≤ b; omega)
  have S1 := (S1.below hb2).keepS enc__len kk2 (fun _ ad _ hlt q => by omega) (by decide)
  have S2 := S2.keepS enc__len kk2 (fun _ ad _ hlt q => by omega) (by decide)
  have kb2 := kk2.below kw2 kw2.size (fun x hx _ => by omega)
  have HA1 : Hid (∀ l : List En, Sl enc_ w1 A1 m1 d1 l → l ≠ [] → ∀ ad, A1 = some ad → ad.block < w1.heap.size) := fun l h hne => h.rd.lt (by
    intro e
    have := congrArg List.length e
    rw [flat_len enc__len] at this
    simp at this
    first | exact hne this | exact hne (List.eq_nil_of_length_eq_zero (by omega)))
  have hA1 := HA1.out _ S1o
  have hA2 : ∀ ad, A2 = some ad → w1.heap.size < ad.block := fun ad e => by have := N2 ad e; have := HZW1.out; omega
  have hAl0 : al ≠ [] → ∀ ad, AA = some ad → ad.block < w.heap.size := fun hne => hAl.rd.lt (by
    intro e
    have := congrArg List.length e
    rw [flat_len itc_len] at this
    simp at this
    first | exact hne this | exact hne (List.eq_nil_of_length_eq_zero (by omega)))
  have hAl2 := hAl.below kb2
  have hm1 : m1 ≤ 1000000 := filt_le S1 hE hen
  have hm2 : m2 ≤ 1000000 := filt_le S2 hE2 hen2
  have P2u8 := Lib.hid P2.u8
  clear hW2 C0 C1 C2 C3 hb2 hc2 hi0 hi1 hinf1 hold1 hone1 hinf2 hold2 hone2 S1o N1 N2 HA1 hne r0 r1 kw1 kw2 kb1 hb1 kk1 kk2 hP hP2 hE hE2 hAl
  generalize Value.agg #[.int .i64 c.lv, .int .i64 c.th, .int .i64 c.o0, .int .i64 c.o1, .int .i64 c.o2, .int .i64 c.o3, .int .i64 c.o4, .int .i64 c.o5, .int .i64 c.o6, .int .i64 c.o7, .int .i64 c.sl, .int .i64 c.li, .int .i64 c.ge, .int .i64 c.qu] = V20
  generalize Value.agg (scc c us (.slice EA en ec)).toArray = V0
  generalize Value.agg (scc c us2 (.slice EA2 en2 ec2)).toArray = V1
  generalize Value.agg (scc c u1 (.slice A1 m1 d1)).toArray = V18
  generalize Value.agg (scc c u2 (.slice A2 m2 d2)).toArray = V27
  go_wp2_with fail
  go_loopg [11] 8 (fun gk i wr => ∃ (k : Nat) (vs : List Value), k + gk = 8 ∧ i = .int .i64 k ∧ Blk wr w.heap.size 29 (scc c us (.slice EA en ec)).toArray ∧ Blk wr (w.heap.size + 1 + 1) 29 (scc cf0 nil8 (.slice none 0 0)).toArray ∧ Blk wr w1.heap.size 29 (scc c vs (.slice A1 m1 d1)).toArray ∧ Blk wr w2.heap.size 29 (scc c u2 (.slice A2 m2 d2)).toArray ∧ PIn (fun b => w.heap.size ≤ b) wr vs (psW (stAb c lv) (psK (stTo c lv) ps 8) (psK (stAb c lv) ps2 8) k) ∧ Keeps (fun b => b = w1.heap.size) W2 wr)
  case atStart => exact ⟨0, u1, by omega, rfl, D0, D2, D3, D4, by rw [psW_zero _ _ _ (psK_len _ _ _)]; exact P1, Keeps.refl _ _⟩
  case round =>
    clear D0 D2 D3 D4 P1
    obtain ⟨k, vs, hk, rfl, D0, D2, D3, D4, P3, kk⟩ := hrel
    have r0 : wr.rangeAt w.heap.size 0 [.int .i64 c.lv, .int .i64 c.th, .int .i64 c.o0, .int .i64 c.o1, .int .i64 c.o2, .int .i64 c.o3, .int .i64 c.o4, .int .i64 c.o5, .int .i64 c.o6, .int .i64 c.o7, .int .i64 c.sl, .int .i64 c.li, .int .i64 c.ge, .int .i64 c.qu] := range_blk D0 0 (scc_conf c us _)
    by_cases hlt : k < 8
    · obtain ⟨l, hl⟩ : ∃ l, (psK (stAb c lv) ps2 8)[k]? = some l := ⟨(psK (stAb c lv) ps2 8)[k]'(by rw [psK_len]; exact hlt), List.getElem?_eq_getElem (i := k) _⟩
      have P2r := P2.keeps (kk.mono fun b h _ => by show _ ≤ b; omega)
      obtain ⟨A, n, c', hu, hs, hA⟩ := P2r.at_ k l hl
      have b0 : (0 : Int) ≤ (k : Int) := by omega
      have b1 : (k : Int) < 8 := by omega
      have hcall := rabove_any c (k : Int) lv wr
      have HL : Hid ((psK (stAb c lv) ps2 8).getD k [] = l) := by rw [Hid, List.getD_eq_getElem?_getD, hl]; rfl
      have HV8 := Lib.hid P3.u8
      have HU := Lib.hid hu
      clear hu hl
      have tok1 : True := trivial
      cases hk0 : abB c (k : Int) lv with
      | false =>
        rw [hk0] at hcall
        have HK : Hid (stAb c lv (k : Int) = false) := hk0
        clear hk0
        go_wp2_with (first | (have _t := tok1; refine wpList_load_mid (op := ⟨some 35, _, _, _, _, _⟩) rfl 24 (.tmp 34) rfl w.heap.size 0 rfl [.int .i64 c.lv, .int .i64 c.th, .int .i64 c.o0, .int .i64 c.o1, .int .i64 c.o2, .int .i64 c.o3, .int .i64 c.o4, .int .i64 c.o5, .int .i64 c.o6, .int .i64 c.o7, .int .i64 c.sl, .int .i64 c.li, .int .i64 c.ge, .int .i64 c.qu] _ r0 Try.underlying24 rfl (by kernel_rfl) ?_; clear tok1 _t) | (go_at_call 20; refine hcall.mono ?_; rintro e wa ⟨rfl, hba⟩))
        go_roundg (gk - 1)
        case measure => omega
        case rel => exact ⟨k + 1, vs, by omega, by go_num, D0.below_ hba, D2.below_ hba, D3.below_ hba, D4.below_ hba, by rw [psW_no _ _ _ _ HK.out]; exact P3.below hba, kk.trans_ (Keeps.of_below (S := fun b => b = w1.heap.size) hba)⟩
      | true =>
        rw [hk0] at hcall
        have HK : Hid (stAb c lv (k : Int) = true) := hk0
        clear hk0
        go_upto_region 9 with (first | (have _t := tok1; refine wpList_load_mid (op := ⟨some 35, _, _, _, _, _⟩) rfl 24 (.tmp 34) rfl w.heap.size 0 rfl [.int .i64 c.lv, .int .i64 c.th, .int .i64 c.o0, .int .i64 c.o1, .int .i64 c.o2, .int .i64 c.o3, .int .i64 c.o4, .int .i64 c.o5, .int .i64 c.o6, .int .i64 c.o7, .int .i64 c.sl, .int .i64 c.li, .int .i64 c.ge, .int .i64 c.qu] _ r0 Try.underlying24 rfl (by kernel_rfl) ?_; clear tok1 _t) | (go_at_call 20; refine hcall.mono ?_; rintro e wa ⟨rfl, hba⟩))
        have G0 := D0.below_ hba
        have G2 := D2.below_ hba
        have G3 := D3.below_ hba
        have G4 := D4.below_ hba
        have P4 := P3.below hba
        have kka := kk.trans_ (Keeps.of_below (S := fun b => b = w1.heap.size) hba)
        have v4 : wa.cell? ⟨w2.heap.size, 14 + k, none⟩ = some (.slice A n c') := (G4.cell _).trans (by rw [List.getElem?_toArray]; exact scc_get HU.out)
        obtain ⟨u8, v8⟩ : ∃ u, wa.cell? ⟨w1.heap.size, 14 + k, none⟩ = some u := ⟨_, (G3.cell _).trans (by rw [List.getElem?_toArray]; exact scc_get (List.getElem?_eq_getElem (by rw [HV8.out]; exact hlt)))⟩
        have f8 := G3.frozen (14 + k)
        have z4 := G4.lt
        have z3 := G3.lt
        have hsa := hs.below hba
        clear hcall D0 D2 D3 D4 P3 kk hba hs P2r r0
        go_wp2_with fail
        go_roundg (gk - 1)
        case measure => omega
        case rel =>
          refine ⟨k + 1, vs.set k (.slice A n c'), by omega, by go_num, G0.far (p := ⟨w1.heap.size, 14 + k, none⟩) (by dsimp only; omega) _, G2.far (p := ⟨w1.heap.size, 14 + k, none⟩) (by dsimp only; omega) _, ?_, G4.far (p := ⟨w1.heap.size, 14 + k, none⟩) (by dsimp only; omega) _, ?_, kka.setCell (p := ⟨w1.heap.size, 14 + k, none⟩) (fun _ => rfl) _⟩
          · rw [← scc_set (by rw [HV8.out]; exact hlt), ← List.setIfInBounds_toArray]
            exact G3.set_ _ _
          · have k8 : Keeps (fun b => w.heap.size ≤ b) wa (wa.setCell ⟨w1.heap.size, 14 + k, none⟩ (.slice A n c')) := (Keeps.refl _ wa).setCell (p := ⟨w1.heap.size, 14 + k, none⟩) (fun _ => by show _ ≤ w1.heap.size; omega) _
            refine PIn.putW (P4.keeps k8) hlt HK.out ?_ ?_
            · rw [HL.out]
              by_cases he : l = []
              · subst he
                exact ⟨hsa.len, hsa.cap, Rd.nil _ _, hsa.nil_⟩
              · exact k8.sl hsa (fun ad e => hA ad e he)
            · rw [HL.out]
              exact hA
    · have hge : ¬ ((k : Int) < 8) := by omega
      obtain rfl : k = 8 := by omega
      have S1 := S1.keepS enc__len kk (fun hne ad e _ q => by have := hA1 hne ad e; omega) (by decide)
      have S2 := S2.keepS enc__len kk (fun _ ad e _ q => by have := hA2 ad e; omega) (by decide)
      have hAl := hAl2.keepS itc_len kk (fun hne ad e _ q => by have := hAl0 hne ad e; omega) (by decide)
      have kbw := kk.below kb2 kb2.size (fun x hx _ => by omega)
      have hv8 := Lib.hid P3.u8
      have c3 : wr.cell? ⟨w1.heap.size, 22, none⟩ = some (.slice A1 m1 d1) := (D3.cell 22).trans (by rw [List.getElem?_toArray]; exact scc_last P3.u8)
      have c4 : wr.cell? ⟨w2.heap.size, 22, none⟩ = some (.slice A2 m2 d2) := (D4.cell 22).trans (by rw [List.getElem?_toArray]; exact scc_last P2u8.out)
      obtain ⟨PW, HPW⟩ : ∃ PW, Hid (psW (stAb c lv) (psK (stTo c lv) ps 8) (psK (stAb c lv) ps2 8) 8 = PW) := ⟨_, rfl⟩
      obtain ⟨E1, HE1⟩ : ∃ E1, Hid ((es.filter fun e => stTo c lv e.th) = E1) := ⟨_, rfl⟩
      obtain ⟨E2, HE2'⟩ : ∃ E2, Hid ((es2.filter fun e => stAb c lv e.th) = E2) := ⟨_, rfl⟩
      rw [HPW.out] at P3
      rw [HE1.out] at S1
      rw [HE2'.out] at S2
      have hl1 := Lib.hid S1.len
      have hl2 := Lib.hid S2.len
      have hl3 := Lib.hid hAl.len
      clear hlt hk hge P2 hAl2 kk kb2 r0 D0 D4 hA1 hA2 hAl0
      obtain ⟨W4, hW4⟩ : ∃ W4, W4 = wr := ⟨_, rfl⟩
      subst hW4
      go_wp2_with fail
      go_loopg [12, 13, 14] m2 (fun gk pv lt i wr => ∃ (k : Nat) (A' : Option Addr) (c' : Nat), k + gk = m2 ∧ i = .int .i64 k ∧ lt = .int .i64 (lastP al k) ∧ pv = .slice A' k c' ∧ wr.ownsRow W4.heap.size 3 1 (.slice A' k c') k ((plcs al k).flatMap itc) ∧ Below W4.heap.size W4 wr)
      case atStart => exact ⟨0, none, 0, by omega, rfl, rfl, rfl, World.ownsRow_nil _ _ _ _, brefl W4⟩
      case round =>
        obtain ⟨k, A', c', hk, rfl, rfl, rfl, own, kr⟩ := hrel
        have x4 := keep_below c4 kr
        have zz4 := block_lt_of_cell x4
        by_cases hlt : k < m2
        · have b0 : (0 : Int) ≤ (k : Int) := by omega
          have b1 : (k : Int) < (m2 : Int) := by omega
          have HP1 : Hid (∀ x, lastP al (k + 1) = x → (plcs al (k + 1)).flatMap itc = (plcs al k).flatMap itc ++ [.int .i64 x]) := fun x hx => by
            rw [plcs_succ, List.flatMap_append, hx]
            rfl
          by_cases hka : k < an
          · obtain ⟨b3, o3, rfl, _, hc3⟩ := hAl.base itc_len (by decide) (by omega)
            obtain ⟨a, ha⟩ : ∃ a, al[k]? = some a := ⟨al[k]'(by have := hl3.out; omega), List.getElem?_eq_getElem (i := k) _⟩
            have ca : wr.cell? ⟨b3, o3 + k, none⟩ = some (.int .i64 a) := keep_below (by have h0 := hc3 k a 0 _ ha rfl; simpa using h0) kr
            have b2 : (k : Int) < (an : Int) := by omega
            have t1 : decide (k < an) = true := decide_eq_true hka
            by_cases hla : lastP al k < a
            · have HL := Lib.hid (last_yes ha hla)
              clear ha hc3
              have ha0 := Lib.hid HL
              generalize lastP al k = L at *
              go_wp2_with (at_builtin; refine wpList_onto (W0 := W4) (ys := [.int .i64 a]) (m := 1) EI rfl (.tmp 69) (.tmp 71) rfl (bnew kr _) rfl (own.alloc _) rfl rfl (Rd.new _ _ _ rfl) (by simp [Value.oneCell']) (by unfold maxLen; omega) (by omega) ?_; intro A8 c8 w8 own8 hb8 _)
              go_roundg (gk - 1)
              case measure => omega
              case rel => exact ⟨k + 1, A8, c8, by omega, by go_num, by rw [HL.out], rfl, by rw [HP1.out _ HL.out]; exact own8, hb8⟩
            · have HL := Lib.hid (last_no (al := al) (k := k) (fun a' h => by rw [ha] at h; cases h; exact hla))
              have t2 : decide (lastP al k < a) = false := decide_eq_false hla
              have HP2 := Lib.hid (HP1.out _ HL.out)
              clear ha hc3 HP1
              have HL2 : Hid (∃ x, lastP al (k + 1) = x ∧ x = lastP al k) := ⟨_, HL.out, rfl⟩
              generalize lastP al k = L at *
              go_wp2_with (at_builtin; refine wpList_onto (W0 := W4) (ys := [.int .i64 L]) (m := 1) EI rfl (.tmp 69) (.tmp 71) rfl (bnew kr _) rfl (own.alloc _) rfl rfl (Rd.new _ _ _ rfl) (by simp [Value.oneCell']) (by unfold maxLen; omega) (by omega) ?_; intro A8 c8 w8 own8 hb8 _)
              go_roundg (gk - 1)
              case measure => omega
              case rel => exact ⟨k + 1, A8, c8, by omega, by go_num, by rw [HL.out], rfl, by rw [HP2.out]; exact own8, hb8⟩
          · have HL := Lib.hid (last_no (al := al) (k := k) (fun a' h => by have := (List.getElem?_eq_some_iff.1 h).1; have := hl3.out; omega))
            have t1 : decide (k < an) = false := decide_eq_false hka
            have HP2 := Lib.hid (HP1.out _ HL.out)
            clear HP1
            generalize lastP al k = L at *
            go_wp2_with (at_builtin; refine wpList_onto (W0 := W4) (ys := [.int .i64 L]) (m := 1) EI rfl (.tmp 69) (.tmp 71) rfl (bnew kr _) rfl (own.alloc _) rfl rfl (Rd.new _ _ _ rfl) (by simp [Value.oneCell']) (by unfold maxLen; omega) (by omega) ?_; intro A8 c8 w8 own8 hb8 _)
            go_roundg (gk - 1)
            case measure => omega
            case rel => exact ⟨k + 1, A8, c8, by omega, by go_num, by rw [HL.out], rfl, by rw [HP2.out]; exact own8, hb8⟩
        · have hge : ¬ ((k : Int) < (m2 : Int)) := by omega
          obtain rfl : m2 = k := by omega
          have kbw := bnext kbw kr
          have D2 := D2.below_ kr
          have D3 := D3.below_ kr
          have c3 := keep_below c3 kr
          have c4 := keep_below c4 kr
          have S1 := S1.below kr
          have S2 := S2.below kr
          have P3 := P3.below kr
          have SP := Sl.of_own itc_len (by decide) own
          obtain ⟨W5, hW5⟩ : ∃ W5, W5 = wr := ⟨_, rfl⟩
          subst hW5
          clear own kr hk hge hlt hAl zz4 x4
          go_wp2_with fail
          go_loopg [15, 16, 17] (m1 + 1) (fun gk ov kv i wr => ∃ (j k m : Nat) (A8 : Option Addr) (c8 : Nat) (out : List En), j + gk = m1 + 1 ∧ i = .int .i64 j ∧ kv = .int .i64 k ∧ k ≤ m2 ∧ m ≤ j + k ∧ ov = .slice A8 m c8 ∧ Hid (out ++ mg al E1 E2 j k = mg al E1 E2 0 0) ∧ Hid (j < m1 → lastP al k ≤ (j : Int)) ∧ Hid (j = m1 + 1 → k = m2) ∧ wr.ownsRow W5.heap.size 42 2 (.slice A8 m c8) m (out.flatMap enc_) ∧ Below W5.heap.size W5 wr)
          case atStart => exact ⟨0, 0, 0, none, 0, [], by omega, rfl, rfl, by omega, by omega, rfl, rfl, fun _ => Int.le_refl _, fun h => by omega, World.ownsRow_nil _ _ _ _, brefl W5⟩
          case round =>
            obtain ⟨j, k, m, A8, c8, out, hj, rfl, rfl, hkm, hmj, rfl, hmg, hlast, hfin, own, kr⟩ := hrel
            obtain ⟨gr, hgr⟩ : ∃ g, g = gk := ⟨_, rfl⟩
            subst hgr
            have x3 := keep_below c3 kr
            have zx3 := block_lt_of_cell x3
            by_cases hji : j ≤ m1
            · have hji' : (j : Int) ≤ (m1 : Int) := by omega
              clear hfin
              go_wp2_with fail
              go_loopg [15, 16] (m2 - k) (fun gk ov kv wr => ∃ (k m : Nat) (A8 : Option Addr) (c8 : Nat) (out : List En), k + gk = m2 ∧ kv = .int .i64 k ∧ m ≤ j + k ∧ ov = .slice A8 m c8 ∧ Hid (out ++ mg al E1 E2 j k = mg al E1 E2 0 0) ∧ Hid (j < m1 → lastP al k ≤ (j : Int)) ∧ wr.ownsRow W5.heap.size 42 2 (.slice A8 m c8) m (out.flatMap enc_) ∧ Below W5.heap.size W5 wr)
              case atStart => exact ⟨k, m, A8, c8, out, by omega, rfl, hmj, rfl, hmg, hlast, own, kr⟩
              case round =>
                clear own kr hmg hlast x3 zx3 hkm hmj
                obtain ⟨k, m, A8, c8, out, hk, rfl, hmj, rfl, hmg, hlast, own, kr⟩ := hrel
                have x3 := keep_below c3 kr
                have zx3 := block_lt_of_cell x3
                by_cases hlt : k < m2
                · have SPr := SP.below kr
                  obtain ⟨b4, o4, rfl, _, hc4⟩ := SPr.base itc_len (by decide) (by omega)
                  obtain ⟨L, hL⟩ : ∃ L, Hid (lastP al (k + 1) = L) := ⟨_, rfl⟩
                  have cL : wr.cell? ⟨b4, o4 + k, none⟩ = some (.int .i64 L) := by
                    have h0 := hc4 k _ 0 _ (plcs_get al hlt) rfl
                    rw [hL.out] at h0
                    simpa using h0
                  have b0 : (0 : Int) ≤ (k : Int) := by omega
                  have b1 : (k : Int) < (m2 : Int) := by omega
                  clear hc4 SPr
                  by_cases hle : L ≤ (j : Int)
                  · have hstep : Hid (stepB al E1 j k = false) := step_doc (by have := hl1.out; omega) (by rw [hl1.out]; exact hlast.out) (.inl (by rw [hL.out]; exact hle))
                    have HLL : Hid (j < m1 → lastP al (k + 1) ≤ (j : Int)) := fun _ => by rw [hL.out]; exact hle
                    have S2r := S2.below kr
                    have x4 := keep_below c4 kr
                    have zx4 := block_lt_of_cell x4
                    obtain ⟨b2, o2, rfl, hb2w, _⟩ := S2r.base enc__len (by decide) (by omega)
                    obtain ⟨e2v, he2⟩ : ∃ e, E2[k]? = some e := ⟨E2[k]'(by have := hl2.out; omega), List.getElem?_eq_getElem (i := k) _⟩
                    have hrg : wr.rangeAt b2 (o2 + k * 2) [.int .i64 e2v.th, .int .i64 e2v.wh] := range_sl enc__len S2r he2
                    have hmg' : Hid ((out ++ [e2v]) ++ mg al E1 E2 j (k + 1) = mg al E1 E2 0 0) := by
                      rw [Hid, List.append_assoc, List.singleton_append, ← mg_y he2 hstep.out]
                      exact hmg.out
                    clear he2 S2r
                    have tok1 : True := trivial; have tok2 : True := trivial
                    go_wp2_with (first | (have _t := tok1; refine wpList_load_mid (op := ⟨some 104, _, _, _, _, _⟩) rfl 42 (.tmp 103) rfl b2 (o2 + k * 2) rfl [.int .i64 e2v.th, .int .i64 e2v.wh] _ hrg Try.underlying42 rfl (by kernel_rfl) ?_; clear tok1 _t) | (have _t := tok2; at_builtin; refine wpList_onto (W0 := W5) (ys := [.int .i64 e2v.th, .int .i64 e2v.wh]) (m := 1) E2x rfl (.tmp 99) (.tmp 105) rfl (bnew kr _) rfl (own.alloc _) rfl rfl (Rd.new _ _ _ rfl) (by simp [Value.oneCell']) (by unfold maxLen; omega) (by omega) ?_; intro A9 c9 w9 own9 hb9 _; clear tok2 _t))
                    go_roundg (gk - 1)
                    case measure => omega
                    case rel => exact ⟨k + 1, m + 1, A9, c9, out ++ [e2v], by omega, by go_num, by omega, rfl, hmg', HLL, by rw [List.flatMap_append]; exact own9, hb9⟩
                  · by_cases hjm : j = m1
                    · have hstep : Hid (stepB al E1 j k = false) := step_doc (by have := hl1.out; omega) (by rw [hl1.out]; exact hlast.out) (.inr (by rw [hl1.out]; exact hjm))
                      have HLL : Hid (j < m1 → lastP al (k + 1) ≤ (j : Int)) := fun h => by omega
                      have e1 : ((j : Int) == (m1 : Int)) = true := by rw [hjm]; exact beq_self_eq_true _
                      have e2 : decide (L ≤ (j : Int)) = false := decide_eq_false hle
                      have hjm' : Hid (j = m1) := hjm
                      clear hjm
                      have S2r := S2.below kr
                      have x4 := keep_below c4 kr
                      have zx4 := block_lt_of_cell x4
                      obtain ⟨b2, o2, rfl, hb2w, _⟩ := S2r.base enc__len (by decide) (by omega)
                      obtain ⟨e2v, he2⟩ : ∃ e, E2[k]? = some e := ⟨E2[k]'(by have := hl2.out; omega), List.getElem?_eq_getElem (i := k) _⟩
                      have hrg : wr.rangeAt b2 (o2 + k * 2) [.int .i64 e2v.th, .int .i64 e2v.wh] := range_sl enc__len S2r he2
                      have hmg' : Hid ((out ++ [e2v]) ++ mg al E1 E2 j (k + 1) = mg al E1 E2 0 0) := by
                        rw [Hid, List.append_assoc, List.singleton_append, ← mg_y he2 hstep.out]
                        exact hmg.out
                      clear he2 S2r
                      have tok1 : True := trivial; have tok2 : True := trivial
                      go_wp2_with (first | (have _t := tok1; refine wpList_load_mid (op := ⟨some 104, _, _, _, _, _⟩) rfl 42 (.tmp 103) rfl b2 (o2 + k * 2) rfl [.int .i64 e2v.th, .int .i64 e2v.wh] _ hrg Try.underlying42 rfl (by kernel_rfl) ?_; clear tok1 _t) | (have _t := tok2; at_builtin; refine wpList_onto (W0 := W5) (ys := [.int .i64 e2v.th, .int .i64 e2v.wh]) (m := 1) E2x rfl (.tmp 99) (.tmp 105) rfl (bnew kr _) rfl (own.alloc _) rfl rfl (Rd.new _ _ _ rfl) (by simp [Value.oneCell']) (by unfold maxLen; omega) (by omega) ?_; intro A9 c9 w9 own9 hb9 _; clear tok2 _t))
                      go_roundg (gk - 1)
                      case measure => omega
                      case rel => exact ⟨k + 1, m + 1, A9, c9, out ++ [e2v], by omega, by go_num, by omega, rfl, hmg', HLL, by rw [List.flatMap_append]; exact own9, hb9⟩
                    · have hstep : Hid (stepB al E1 j k = true) := step_doc' (by have := hl1.out; omega) (hlast.out (by omega)) (by rw [hL.out]; omega)
                      have e1 : ((j : Int) == (m1 : Int)) = false := by rw [beq_eq_false_iff_ne]; omega
                      have e2 : decide (L ≤ (j : Int)) = false := decide_eq_false hle
                      have hjx : j < m1 := by omega
                      obtain ⟨e1', he1'⟩ : ∃ e, E1[j]? = some e := ⟨E1[j]'(by have := hl1.out; omega), List.getElem?_eq_getElem (i := j) _⟩
                      have hmg' : Hid ((out ++ [e1']) ++ mg al E1 E2 (j + 1) k = mg al E1 E2 0 0) := by
                        rw [Hid, List.append_assoc, List.singleton_append, ← mg_x (by have := hl2.out; omega) hstep.out he1']
                        exact hmg.out
                      have S1r := S1.below kr
                      obtain ⟨b1x, o1, rfl, hb1w, _⟩ := S1r.base enc__len (by decide) (by omega)
                      have hrg : wr.rangeAt b1x (o1 + j * 2) [.int .i64 e1'.th, .int .i64 e1'.wh] := range_sl enc__len S1r he1'
                      have j0 : (0 : Int) ≤ (j : Int) := by omega
                      have j1 : (j : Int) < (m1 : Int) := by omega
                      have hlast' : Hid (j + 1 < m1 → lastP al k ≤ ((j + 1 : Nat) : Int)) := fun h => by have := hlast.out hjx; omega
                      have hfin' : Hid (j + 1 = m1 + 1 → k = m2) := fun h => by omega
                      clear he1' S1r
                      have tok1 : True := trivial; have tok2 : True := trivial
                      go_wp2_with (first | (have _t := tok1; refine wpList_load_mid (op := ⟨some 119, _, _, _, _, _⟩) rfl 42 (.tmp 118) rfl b1x (o1 + j * 2) rfl [.int .i64 e1'.th, .int .i64 e1'.wh] _ hrg Try.underlying42 rfl (by kernel_rfl) ?_; clear tok1 _t) | (have _t := tok2; at_builtin; refine wpList_onto (W0 := W5) (ys := [.int .i64 e1'.th, .int .i64 e1'.wh]) (m := 1) E2x rfl (.tmp 114) (.tmp 120) rfl (bnew kr _) rfl (own.alloc _) rfl rfl (Rd.new _ _ _ rfl) (by simp [Value.oneCell']) (by unfold maxLen; omega) (by omega) ?_; intro A9 c9 w9 own9 hb9 _; clear tok2 _t))
                      go_roundg (gr - 1)
                      case measure => omega
                      case rel => exact ⟨j + 1, k, m + 1, A9, c9, out ++ [e1'], by omega, by go_num, rfl, by omega, by omega, rfl, hmg', hlast', hfin', by rw [List.flatMap_append]; exact own9, hb9⟩
                · have t1 : decide (k < m2) = false := decide_eq_false hlt
                  have HKM : Hid (k = m2) := by show k = m2; omega
                  by_cases hjx : j < m1
                  · obtain ⟨e1', he1'⟩ : ∃ e, E1[j]? = some e := ⟨E1[j]'(by have := hl1.out; omega), List.getElem?_eq_getElem (i := j) _⟩
                    have hmg' : Hid ((out ++ [e1']) ++ mg al E1 E2 (j + 1) k = mg al E1 E2 0 0) := by
                      have h0 := hmg.out
                      rw [mg_end (by have := hl2.out; omega), List.drop_eq_getElem_cons (i := j) (by have := hl1.out; omega), (List.getElem?_eq_some_iff.1 he1').2] at h0
                      rw [Hid, mg_end (by have := hl2.out; omega), List.append_assoc, List.singleton_append]
                      exact h0
                    have S1r := S1.below kr
                    obtain ⟨b1x, o1, rfl, hb1w, _⟩ := S1r.base enc__len (by decide) (by omega)
                    have hrg : wr.rangeAt b1x (o1 + j * 2) [.int .i64 e1'.th, .int .i64 e1'.wh] := range_sl enc__len S1r he1'
                    have j0 : (0 : Int) ≤ (j : Int) := by omega
                    have j1 : (j : Int) < (m1 : Int) := by omega
                    have hlast' : Hid (j + 1 < m1 → lastP al k ≤ ((j + 1 : Nat) : Int)) := fun h => by have := hlast.out hjx; omega
                    have hfin' : Hid (j + 1 = m1 + 1 → k = m2) := fun h => by omega
                    clear he1' S1r
                    have tok1 : True := trivial; have tok2 : True := trivial
                    go_wp2_with (first | (have _t := tok1; refine wpList_load_mid (op := ⟨some 119, _, _, _, _, _⟩) rfl 42 (.tmp 118) rfl b1x (o1 + j * 2) rfl [.int .i64 e1'.th, .int .i64 e1'.wh] _ hrg Try.underlying42 rfl (by kernel_rfl) ?_; clear tok1 _t) | (have _t := tok2; at_builtin; refine wpList_onto (W0 := W5) (ys := [.int .i64 e1'.th, .int .i64 e1'.wh]) (m := 1) E2x rfl (.tmp 114) (.tmp 120) rfl (bnew kr _) rfl (own.alloc _) rfl rfl (Rd.new _ _ _ rfl) (by simp [Value.oneCell']) (by unfold maxLen; omega) (by omega) ?_; intro A9 c9 w9 own9 hb9 _; clear tok2 _t))
                    go_roundg (gr - 1)
                    case measure => omega
                    case rel => exact ⟨j + 1, k, m + 1, A9, c9, out ++ [e1'], by omega, by go_num, rfl, by omega, by omega, rfl, hmg', hlast', hfin', by rw [List.flatMap_append]; exact own9, hb9⟩
                  · have t2 : decide (j < m1) = false := decide_eq_false hjx
                    obtain rfl : m1 = j := by omega
                    clear hjx
                    go_wp2_with fail
                    go_roundg (gr - 1)
                    case measure => omega
                    case rel =>
                      refine ⟨m1 + 1, k, m, A8, c8, out, by omega, by go_num, rfl, by omega, by omega, rfl, ?_, fun h => by omega, fun _ => HKM.out, own, kr⟩
                      have h0 := hmg.out
                      rw [mg_end (by have := hl2.out; omega), List.drop_eq_nil_of_le (by have := hl1.out; omega)] at h0
                      rw [Hid, mg_end (by have := hl2.out; omega), List.drop_eq_nil_of_le (by have := hl1.out; omega)]
                      exact h0
            · have hjd : decide (j ≤ m1) = false := decide_eq_false hji
              obtain rfl : j = m1 + 1 := by omega
              obtain rfl : m2 = k := (hfin.out rfl).symm
              have HRES : Hid (out = wvE c es es2 lv al) := by
                have h1 := hmg.out
                rw [mg_end (by have := hl2.out; omega), List.drop_eq_nil_of_le (by have := hl1.out; omega), List.append_nil] at h1
                rw [Hid, h1, wvE, HE1.out, HE2'.out]
              have D2 := D2.below_ kr
              have D3 := D3.below_ kr
              have P3 := P3.below kr
              have kb5 := bnext kbw kr
              have f3 := D3.frozen 22
              have z3 := D3.lt
              clear hji
              go_upto_region 29 with (fail)
              obtain ⟨W9, hW9, G2, G3, P9, kb9, OWN9⟩ : ∃ W9, wr.setCell ⟨w1.heap.size, 22, none⟩ (.slice A8 m c8) = W9 ∧ Blk W9 (w.heap.size + 1 + 1) 29 (scc cf0 nil8 (.slice none 0 0)).toArray ∧ Blk W9 w1.heap.size 29 (scc c vs (.slice A8 m c8)).toArray ∧ PIn (fun b => w.heap.size ≤ b) W9 vs PW ∧ Below w.heap.size w W9 ∧ W9.ownsRow W5.heap.size 42 2 (.slice A8 m c8) m (out.flatMap enc_) := by
                have k9 : Keeps (fun b => b = w1.heap.size) wr (wr.setCell ⟨w1.heap.size, 22, none⟩ (.slice A8 m c8)) := (Keeps.refl (fun b => b = w1.heap.size) wr).setCell (p := ⟨w1.heap.size, 22, none⟩) (fun _ => rfl) _
                refine ⟨_, rfl, k9.blk D2 (by omega), ?_, P3.keeps (k9.mono fun b h _ => by show _ ≤ b; omega), k9.below kb5 kb5.size (fun x hx _ => by omega), k9.own own (fun k' q1 q2 => own_ne_blk own D3 (by decide) (by rw [q1, q2]))⟩
                rw [← scc_setl P3.u8, ← List.setIfInBounds_toArray]
                exact D3.set_ _ _
              rw [hW9]
              have hinf9 := info_scc (c := c) (us := vs) (ev := .slice A8 m c8) P9.u8
              have hold9 : (scc cf0 nil8 (.slice none 0 0)).toArray.size = (scc c vs (.slice A8 m c8)).toArray.size := by rw [List.size_toArray, List.size_toArray, scc_len P9.u8, scc_len rfl]
              have hone9 := scc_one (c := c) P9 A8 m c8
              have kr2 := keeps_row W9 (w.heap.size + 1 + 1) (scc c vs (.slice A8 m c8)).toArray
              have HF1 : Hid (PIn (fun _ => False) (W9.setRow (w.heap.size + 1 + 1) (scc c vs (.slice A8 m c8)).toArray) vs (wvP c ps ps2 lv)) := by
                rw [Hid, show wvP c ps ps2 lv = PW from HPW.out]
                exact (P9.keeps (kr2.mono fun b h _ => by show _ ≤ b; omega)).weak (fun b h => h.elim)
              have HF2 : Hid (Sl enc_ (W9.setRow (w.heap.size + 1 + 1) (scc c vs (.slice A8 m c8)).toArray) A8 m c8 (wvE c es es2 lv al)) := by
                rw [Hid, ← HRES.out]
                exact Sl.of_own enc__len (by decide) (kr2.own OWN9 (fun k' q1 q2 => own_ne_blk OWN9 G2 (by decide) (by rw [q1, q2])))
              have HF3 := Lib.hid (kr2.below kb9 kb9.size (fun x hx _ => by omega))
              have HF4 := Lib.hid (G2.row (scc c vs (.slice A8 m c8)).toArray)
              clear hW9 f3 z3 x3 zx3 D2 D3 kr kr2 P9 kb9 OWN9 HRES P3 own S1 S2 SP c3 c4
              have tok1 : True := trivial; have tok2 : True := trivial
              go_wp2_with (first | (have _t := tok1; refine wpList_load_row (o := ⟨some 124, _, _, _, _, _⟩) rfl 29 (.tmp 9) rfl w1.heap.size rfl 29 _ _ _ G3 Try.underlying29 rfl hinf9 ?_; clear tok1 _t) | (have _t := tok2; refine wpList_store_row (o := ⟨none, .store 29 (.tmp 8) (.tmp 124), _, _, _, _⟩) rfl 29 (.tmp 8) (.tmp 124) rfl (w.heap.size + 1 + 1) _ rfl rfl 29 _ G2 hinf9 hold9 hone9 ?_; clear tok2 _t))
              all_goals exact bodyPost_ret (v := .agg (scc c vs (.slice A8 m c8)).toArray) (results_cell_row rfl _ _ (w.heap.size + 1 + 1) 29 _ _ _ rfl HF4.out Try.underlying29 rfl hinf9) rfl ⟨vs, A8, m, c8, rfl, HF1.out, HF2.out, HF3.out⟩
end Go.Proofs.Ytijffncgokcidaa
