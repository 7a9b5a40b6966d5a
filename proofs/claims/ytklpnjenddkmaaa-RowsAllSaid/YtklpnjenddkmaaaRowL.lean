/- Rows: the law RowsKeep. -/
import Derived.Test.YtklpnjenddkmaaaRowK
namespace Go.Proofs.Ytklpnjenddkmaaa
set_option linter.unusedVariables false
set_option linter.unusedSimpArgs false
open Go.RowKit

def srt (l : List RV) : Prop := l.Pairwise fun x y => x.k < y.k
theorem srt_ris {l : List RV} (h : srt l) : risB l = true := ris_yes fun j x y hx hy => by
  obtain ⟨hj, rfl⟩ := List.getElem?_eq_some_iff.1 hx
  obtain ⟨hj', rfl⟩ := List.getElem?_eq_some_iff.1 hy
  exact List.pairwise_iff_getElem.1 h j (j + 1) hj hj' (by omega)
theorem idx_c1 {r : RV} {t : List RV} {key : Int} (h : key ≤ r.k) : idx (r :: t) key = 0 := by rw [idx, if_pos h]
theorem idx_c2 {r : RV} {t : List RV} {key : Int} (h : ¬ key ≤ r.k) : idx (r :: t) key = idx t key + 1 := by rw [idx, if_neg h]
theorem thr_c1 {r : RV} {t : List RV} {key : Int} (h : key ≤ r.k) : thr (r :: t) key = (r.k == key) := by unfold thr; rw [idx_c1 h]; rfl
theorem thr_c2 {r : RV} {t : List RV} {key : Int} (h : ¬ key ≤ r.k) : thr (r :: t) key = thr t key := by unfold thr; rw [idx_c2 h, List.getElem?_cons_succ]
theorem ins_c {r x : RV} {t : List RV} {i : Nat} : insL (r :: t) (i + 1) x = r :: insL t i x := by simp [insL]
theorem del_c {r : RV} {t : List RV} {i : Nat} : delL (r :: t) (i + 1) = r :: delL t i := by simp [delL]
theorem ins_mem {l : List RV} {i : Nat} {x y : RV} (h : y ∈ insL l i x) : y = x ∨ y ∈ l := by
  unfold insL at h
  rcases List.mem_append.1 h with h | h
  · exact .inr (List.mem_of_mem_take h)
  · rcases List.mem_cons.1 h with h | h
    · exact .inl h
    · exact .inr (List.mem_of_mem_drop h)
theorem srt_ins (x : RV) : ∀ l : List RV, srt l → thr l x.k = false → srt (insL l (idx l x.k) x)
  | [], _, _ => by simp [srt, insL, idx]
  | r :: t, h, ht => by
    have h0 := List.pairwise_cons.1 h
    by_cases hx : x.k ≤ r.k
    · rw [thr_c1 hx] at ht
      have hne : r.k ≠ x.k := by simpa using ht
      rw [idx_c1 hx]
      show srt (x :: r :: t)
      refine List.pairwise_cons.2 ⟨fun y hy => ?_, h⟩
      rcases List.mem_cons.1 hy with rfl | hy
      · omega
      · have := h0.1 y hy
        omega
    · rw [thr_c2 hx] at ht
      rw [idx_c2 hx, ins_c]
      refine List.pairwise_cons.2 ⟨fun y hy => ?_, srt_ins x t h0.2 ht⟩
      rcases ins_mem hy with rfl | hy
      · omega
      · exact h0.1 y hy
theorem srt_put {l : List RV} (h : srt l) (x : RV) : srt (putL l x) := by
  unfold putL
  cases ht : thr l x.k with
  | true => simpa using h
  | false => simpa using srt_ins x l h ht
theorem srt_del (key : Int) : ∀ l : List RV, srt l → thr l key = true → srt (delL l (idx l key)) ∧ idx (delL l (idx l key)) key = idx l key ∧ thr (delL l (idx l key)) key = false ∧ ∀ r, l[idx l key]? = some r → insL (delL l (idx l key)) (idx l key) r = l
  | [], _, ht => by simp [thr] at ht
  | r :: t, h, ht => by
    have h0 := List.pairwise_cons.1 h
    by_cases hx : key ≤ r.k
    · rw [thr_c1 hx] at ht
      have he : r.k = key := by simpa using ht
      rw [idx_c1 hx]
      have hd : delL (r :: t) 0 = t := by simp [delL]
      rw [hd]
      refine ⟨h0.2, ?_⟩
      cases t with
      | nil => exact ⟨rfl, rfl, fun s hs => by simp at hs; subst hs; rfl⟩
      | cons s t =>
        have hs := h0.1 s (by simp)
        have hks : key ≤ s.k := by omega
        refine ⟨idx_c1 hks, ?_, fun u hu => by simp at hu; subst hu; rfl⟩
        rw [thr_c1 hks, beq_eq_false_iff_ne]
        omega
    · rw [thr_c2 hx] at ht
      obtain ⟨g1, g2, g3, g4⟩ := srt_del key t h0.2 ht
      rw [idx_c2 hx, del_c]
      refine ⟨List.pairwise_cons.2 ⟨fun y hy => ?_, g1⟩, ?_, ?_, fun s hs => ?_⟩
      · unfold delL at hy
        rcases List.mem_append.1 hy with hy | hy
        · exact h0.1 y (List.mem_of_mem_take hy)
        · exact h0.1 y (List.mem_of_mem_drop hy)
      · rw [idx_c2 hx, g2]
      · rw [thr_c2 hx, g3]
      · rw [List.getElem?_cons_succ] at hs
        rw [ins_c, g4 s hs]
theorem thr_key {l : List RV} {key : Int} {r : RV} (h : thr l key = true) (hr : l[idx l key]? = some r) : r.k = key := by
  rw [thr_some hr] at h
  simpa using h
set_option maxHeartbeats 4000000 in
set_option maxRecDepth 100000 in
theorem rowskeep_long {w : World} {A : Option Addr} {n c : Nat} {l : List RV} (h : Sl rvc w A n c l) (key : Int) (hn : 100 < n) :
    Calls Try.prog 5 #[.slice A n c, .int .i64 key] w fun e w' => e = .returned (.bool true) ∧ Below w.heap.size w w' := by
  go_enter Try.func5, Try.ntmps5
  go_wp2_with (go_at_call 6; refine (lives10 _).mono ?_; rintro e w1 ⟨rfl, hb1⟩)
  go_ret
  exact ⟨rfl, hb1⟩
set_option maxHeartbeats 4000000 in
set_option maxRecDepth 100000 in
theorem rowskeep_any {w : World} {A : Option Addr} {n c : Nat} {l : List RV} (h : Sl rvc w A n c l) (key : Int) :
    Calls Try.prog 5 #[.slice A n c, .int .i64 key] w fun e w' => e = .returned (.bool true) ∧ Below w.heap.size w w' := by
  by_cases hn0 : 100 < n
  · exact rowskeep_long h key hn0
  have hn : n ≤ 100 := by omega
  have hge : ¬ ((100 : Int) < (n : Int)) := by omega
  have hlen := Lib.hid h.len
  clear hn0
  go_enter Try.func5, Try.ntmps5
  go_wp2_with fail
  go_loopg [5, 6] n (fun gk av i wr => ∃ (k n' c' : Nat) (A' : Option Addr) (all : List RV), k + gk = n ∧ i = .int .i64 k ∧ av = .slice A' n' c' ∧ n' ≤ k ∧ Hid (srt all) ∧ Sl rvc wr A' n' c' all ∧ Below w.heap.size w wr)
  case atStart => exact ⟨0, 0, 0, none, [], by omega, rfl, rfl, Nat.le_refl _, List.Pairwise.nil, ⟨rfl, Nat.le_refl _, Rd.nil _ _, fun _ => ⟨rfl, rfl⟩⟩, brefl w⟩
  case round =>
    obtain ⟨k, n', c', A', all, hk, rfl, rfl, hnk, hsrt, S, kb⟩ := hrel
    by_cases hlt : k < n
    · obtain ⟨b, o, rfl, _, hc⟩ := (h.below kb).base rvc_len (by decide) (by omega)
      obtain ⟨e, he⟩ : ∃ e, l[k]? = some e := ⟨l[k]'(by have := hlen.out; omega), List.getElem?_eq_getElem (i := k) _⟩
      have c0 : wr.cell? ⟨b, o + k * 3, none⟩ = some (.int .i64 e.k) := by have h0 := hc k e 0 _ he rfl; simpa using h0
      have c1 : wr.cell? ⟨b, o + k * 3 + 1, none⟩ = some (.int .u64 e.a) := by have h0 := hc k e 1 _ he rfl; simpa [Nat.add_assoc] using h0
      have c2 : wr.cell? ⟨b, o + k * 3 + 2, none⟩ = some (.int .u64 e.b) := by have h0 := hc k e 2 _ he rfl; simpa [Nat.add_assoc] using h0
      have b0 : (0 : Int) ≤ (k : Int) := by omega
      have b1 : (k : Int) < (n : Int) := by omega
      have hn5 : n' ≤ 1000000 := by omega
      have HS2 := Lib.hid (srt_put hsrt.out e)
      obtain ⟨t, ht⟩ : ∃ t, thr all e.k = t := ⟨_, rfl⟩
      have hput := put_any S hn5 e
      have hat := fun (W : World) (hW : Below wr.heap.size wr W) => at_any (S.below hW) hn5 e.k
      rw [ht] at hput
      simp only [ht] at hat
      have hne : ((!t) == t) = false := by cases t <;> rfl
      clear hc he hsrt ht
      have tok1 : True := trivial; have tok2 : True := trivial
      go_wp2_with (first
        | (have _t := tok1; go_at_call 11; refine (hput).mono ?_; rintro e1 w1 ⟨Aa, na, ca, rfl, Sa, na1, hb1⟩; have e0 := keep_below c0 hb1; have z1 := block_lt_of_cell e0; clear tok1 _t)
        | (have _t := tok2; go_at_call 15; refine (hat _ hb1).mono ?_; rintro e2 w2 ⟨rfl, hb2⟩; clear tok2 _t))
      go_roundg (gk - 1)
      case measure => omega
      case rel => exact ⟨k + 1, na, ca, Aa, putL all e, by omega, by go_num, rfl, by omega, HS2, Sa.below hb2, bnext (bnext kb hb1) hb2⟩
    · have hge2 : ¬ ((k : Int) < (n : Int)) := by omega
      have hn5 : n' ≤ 1000000 := by omega
      have hr1 := srt_ris hsrt.out
      clear hk hlt hnk hlen h
      obtain ⟨W0, hW0⟩ : ∃ W0, W0 = wr := ⟨_, rfl⟩
      subst hW0
      cases ht : thr all key with
      | false =>
        have hdr := drop_no S hn5 key ht
        have hat := fun (W : World) (hW : Below W0.heap.size W0 W) => at_any (S.below hW) hn5 key
        simp only [ht] at hat
        have hris := fun (W : World) (hW : Below W0.heap.size W0 W) => rises_any (S.below hW) hn5
        simp only [hr1] at hris
        have hsm := fun (W : World) (hW : Below W0.heap.size W0 W) => same_any (S.below hW) (S.below hW) (by omega) (by omega)
        simp only [decide_true] at hsm
        clear ht hr1 hsrt
        generalize idx all key = i2 at *
        have tok1 : True := trivial; have tok2 : True := trivial; have tok3 : True := trivial; have tok4 : True := trivial; have tok5 : True := trivial; have tok6 : True := trivial
        go_wp2_with (first
          | (have _t := tok1; go_at_call 13; refine (hdr).mono ?_; rintro e1 w1 ⟨rfl, hb1⟩; have kc := bnew hb1 (.cells #[.int .i64 0, .int .u64 0, .int .u64 0] 29); clear tok1 _t)
          | (have _t := tok2; go_at_call 15; refine (hat _ kc).mono ?_; rintro e2 w2 ⟨rfl, hb2⟩; have kd := bnext kc hb2; clear tok2 _t)
          | (have _t := tok3; go_at_call 17; refine (hris _ kd).mono ?_; rintro e3 w3 ⟨rfl, hb3⟩; have ke := bnext kd hb3; clear tok3 _t)
          | (have _t := tok4; go_at_call 17; refine (hris _ ke).mono ?_; rintro e4 w4 ⟨rfl, hb4⟩; have kf := bnext ke hb4; clear tok4 _t)
          | (have _t := tok5; go_at_call 9; refine (hsm _ kf).mono ?_; rintro e5 w5 ⟨rfl, hb5⟩; have kg := bnext kf hb5; clear tok5 _t)
          | (have _t := tok6; go_at_call 6; refine (lives10 _).mono ?_; rintro e6 w6 ⟨rfl, hb6⟩; clear tok6 _t))
        go_ret
        exact ⟨rfl, bnext kb (bnext kg hb6)⟩
      | true =>
        obtain ⟨r, hr⟩ : ∃ r, all[idx all key]? = some r := ⟨_, thr_at ht⟩
        have hrk := thr_key ht hr
        obtain ⟨g1, g2, g3, g4⟩ := srt_del key all hsrt.out ht
        have g4 := g4 r hr
        have hin := (List.getElem?_eq_some_iff.1 hr).1
        rw [S.len] at hin
        have hdr := drop_yes S hn5 key ht hr
        have hat := fun (W : World) (hW : Below W0.heap.size W0 W) => at_any (S.below hW) hn5 key
        simp only [ht] at hat
        have hris := fun (W : World) (hW : Below W0.heap.size W0 W) => rises_any (S.below hW) hn5
        simp only [hr1] at hris
        have hr2 := srt_ris g1
        have S0 := S
        clear ht hr1 hsrt
        generalize idx all key = i2 at *
        generalize delL all i2 = out at *
        have HO := Lib.hid (show thr out r.k = false by rw [hrk]; exact g3)
        have HP := Lib.hid (show insL out (idx out r.k) r = all by rw [hrk, g2]; exact g4)
        have HG3 := Lib.hid g3
        have HR2 := Lib.hid hr2
        have HRA := Lib.hid hr
        clear g1 g2 g3 g4 hr2 hrk hr
        have tok1 : True := trivial
        go_upto_region 13 with (have _t := tok1; go_at_call 13; refine (hdr).mono ?_; rintro e1 w1 ⟨Ao, co, rfl, So, hb1⟩; clear tok1 _t)
        obtain ⟨W1, hW1, B12, kb1⟩ : ∃ W1, w1.alloc (.cells #[.int .i64 r.k, .int .u64 r.a, .int .u64 r.b] 29) = W1 ∧ Blk W1 w1.heap.size 29 #[.int .i64 r.k, .int .u64 r.a, .int .u64 r.b] ∧ Below W0.heap.size W0 W1 := ⟨_, rfl, Blk.new _ _ _, bnew hb1 _⟩
        rw [hW1]
        have So : Sl rvc W1 Ao (n' - 1) co out := by rw [← hW1]; exact So.alloc _
        clear hW1 hb1 hdr
        generalize w1.heap.size = q12 at *
        have hris2 := fun (W : World) (hW : Below W1.heap.size W1 W) => rises_any (So.below hW) (by omega)
        simp only [HR2.out] at hris2
        have hat2 := fun (W : World) (hW : Below W1.heap.size W1 W) => at_any (So.below hW) (by omega) key
        simp only [HG3.out] at hat2
        have hput := fun (W : World) (hW : Below W1.heap.size W1 W) => put_yes (So.below hW) (by omega) r HO.out
        simp only [HP.out] at hput
        generalize idx out key = i3 at *
        have tok1 : True := trivial; have tok2 : True := trivial; have tok3 : True := trivial; have tok4 : True := trivial; have tok5 : True := trivial
        go_upto_region 20 with (first
          | (have _t := tok1; go_at_call 15; refine (hat _ kb1).mono ?_; rintro e2 w2 ⟨rfl, hb2⟩; have kd := bnext kb1 hb2; clear tok1 _t)
          | (have _t := tok2; go_at_call 17; refine (hris _ kd).mono ?_; rintro e3 w3 ⟨rfl, hb3⟩; have ke := bnext hb2 hb3; clear tok2 _t)
          | (have _t := tok3; go_at_call 17; refine (hris2 _ ke).mono ?_; rintro e4 w4 ⟨rfl, hb4⟩; have kf := bnext ke hb4; clear tok3 _t)
          | (have _t := tok4; go_at_call 15; refine (hat2 _ kf).mono ?_; rintro e5 w5 ⟨rfl, hb5⟩; have kg := bnext kf hb5; have C12 := B12.below_ kg; have p0 : w5.cell? ⟨q12, 0, none⟩ = some (.int .i64 r.k) := C12.cell 0; have p1 : w5.cell? ⟨q12, 1, none⟩ = some (.int .u64 r.a) := C12.cell 1; have p2 : w5.cell? ⟨q12, 2, none⟩ = some (.int .u64 r.b) := C12.cell 2; have z12 := C12.lt; clear tok4 _t)
          | (have _t := tok5; go_at_call 11; refine (hput _ kg).mono ?_; rintro e6 w6 ⟨Ab, cb, rfl, Sb, hb6⟩; clear tok5 _t))
        have kh := bnext kg hb6
        have ki := bnext kb1 kh
        obtain ⟨W9, hW9⟩ : ∃ W9, W9 = w6 := ⟨_, rfl⟩
        subst hW9
        have S9 := S0.below ki
        have C12 := B12.below_ kh
        have hsame := fun (W : World) (hW : Below W9.heap.size W9 W) => same_any (Sb.below hW) (S9.below hW) (by omega) (by omega)
        simp only [decide_true] at hsame
        obtain ⟨b, o, rfl, _, hc⟩ := S9.base rvc_len (by decide) (by omega)
        have c0 : W9.cell? ⟨b, o + i2 * 3, none⟩ = some (.int .i64 r.k) := by have h0 := hc i2 r 0 _ HRA.out rfl; simpa using h0
        have c1 : W9.cell? ⟨b, o + i2 * 3 + 1, none⟩ = some (.int .u64 r.a) := by have h0 := hc i2 r 1 _ HRA.out rfl; simpa [Nat.add_assoc] using h0
        have c2 : W9.cell? ⟨b, o + i2 * 3 + 2, none⟩ = some (.int .u64 r.b) := by have h0 := hc i2 r 2 _ HRA.out rfl; simpa [Nat.add_assoc] using h0
        have u0 : W9.cell? ⟨q12, 0, none⟩ = some (.int .i64 r.k) := C12.cell 0
        have u1 : W9.cell? ⟨q12, 1, none⟩ = some (.int .u64 r.a) := C12.cell 1
        have u2 : W9.cell? ⟨q12, 2, none⟩ = some (.int .u64 r.b) := C12.cell 2
        have b0 : (0 : Int) ≤ (i2 : Int) := by omega
        have b1 : (i2 : Int) < (n' : Int) := by omega
        have b2 : i2 < n' := hin
        have hw1 : IntKind.i64.wrap ((n' : Int) - 1) = ((n' - 1 : Nat) : Int) := by rw [IntKind.wrap_i64]; omega
        have hq := eqR_self r
        have kj := bnext kb ki
        clear p0 p1 p2 C12 B12 S0 So Sb S9 hc z12 kb kb1 kd ke kf kg kh ki hb2 hb3 hb4 hb5 hb6 hat hris hris2 hat2 hput S
        have hX := @Ext.cell W9
        have hzz0 := block_lt_of_cell c0
        have hzz1 := block_lt_of_cell u0
        refine wp_region_noPanic ?_
        refine wp_region_plan (fun w' => ∃ x : Ext W9, w' = x.w) [([0, 1, 2, 3, 4, 5, 6, 7], 8), ([9, 10, 11, 12, 13, 14, 15, 16, 17, 18, 19, 20, 21, 22, 23, 24, 25, 26, 27, 28, 29, 30, 31, 32], 33)] [34, 35] (by kernel_rfl) (by kernel_rfl) (by kernel_rfl) (fun _ _ _ _ _ h => h) ⟨⟨_, (brefl W9).drew⟩, rfl⟩ ?_
        refine wpPlan_cons ?_
        simp only [pickOps, List.getElem?_cons_succ, List.getElem?_cons_zero, Option.elim_some]
        repeat (go_big_quiet_step (fail))
        refine wpQuiet_nil ?_
        refine planAct_some (fun K hK => ?_)
        go_simp
        refine (hsame _ (brefl W9).drew).mono ?_
        rintro e x1 ⟨rfl, q1⟩
        go_wp2_with fail
        refine hK.out _ _ ⟨⟨_, (bnext (brefl W9).drew q1)⟩, rfl⟩ ?_
        clear hK K
        refine wpPlan_cons ?_
        simp only [pickOps, List.getElem?_cons_succ, List.getElem?_cons_zero, Option.elim_some]
        repeat (go_big_quiet_step (fail))
        refine wpQuiet_nil ?_
        refine planAct_some (fun K hK => ?_)
        go_simp
        refine (lives10 _).mono ?_
        rintro e x2 ⟨rfl, q2⟩
        go_wp2_with fail
        refine hK.out _ _ ⟨⟨_, (bnext (bnext (brefl W9).drew q1) q2)⟩, rfl⟩ ?_
        clear hK K
        refine wpPlan_last ?_
        simp only [pickOps, List.getElem?_cons_succ, List.getElem?_cons_zero, Option.elim_some]
        repeat (go_big_quiet_step (fail))
        refine wpQuiet_nil ?_
        refine NoPanic.normal ?_
        clear hX hzz0 hzz1
        go_wp2_with fail
        go_ret
        exact ⟨rfl, bnext kj (bnext (bnext (brefl W9).drew q1) q2)⟩
end Go.Proofs.Ytklpnjenddkmaaa
