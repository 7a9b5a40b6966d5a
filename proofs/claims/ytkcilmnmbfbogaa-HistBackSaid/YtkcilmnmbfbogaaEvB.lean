/- The events of opers: the marks, sorted. -/
import Derived.Test.YtkcilmnmbfbogaaEvA
import Derived.Shelf.SlSortCmp.NoneTotal
namespace Go.Proofs.Ytkcilmnmbfbogaa
set_option linter.unusedVariables false
set_option linter.unusedSimpArgs false
open Go.RowKit Go.Sort

theorem elem_m : ∃ i, Elem Try.prog 52 54 i (.agg #[.int .i64 0, .int .i64 0, .int .i64 0, .int .i64 0, .bool false, .int .i64 0, .int .i64 0, .int .i64 0, .int .u64 0, .int .u64 0, .int .u64 0, .int .i64 0, .int .i64 0, .int .u64 0, .int .u64 0, .int .u64 0, .int .i64 0, .int .i64 0]) 18 144 := Elem.of Try.underlying52 (by kernel_rfl) rfl (by decide)
theorem elem_e : ∃ i, Elem Try.prog 22 45 i (.agg #[.int .i64 0, .bool false, .int .i64 0, .int .i64 0, .int .i64 0, .int .u64 0, .int .u64 0, .int .u64 0, .int .i64 0, .int .i64 0, .int .u64 0, .int .u64 0, .int .u64 0, .int .i64 0, .int .i64 0]) 15 120 := Elem.of Try.underlying22 (by kernel_rfl) rfl (by decide)
theorem holds_marks {w : World} {B g n c : Nat} {L : List Mk} (own : w.ownsRow B 54 18 (.slice (some ⟨g, 0, none⟩) n c) n (L.flatMap mkc)) (hn : 0 < n) : HoldsK mkc 18 w g 0 L.toArray ∧ L.length = n ∧ g < w.heap.size := by
  have hl := (Sl.of_own mkc_len (by decide) own).len
  obtain ⟨g', e, hB, hz, hf, hc⟩ := own_formx own hn
  cases e
  refine ⟨fun j hj => ?_, hl, hz⟩
  have hj : j < L.length * 18 := by simpa using hj
  refine ⟨?_, hf _⟩
  have hi : j / 18 < L.length := by omega
  have hk : j % 18 < 18 := Nat.mod_lt _ (by decide)
  have h1 : (L.flatMap mkc)[j / 18 * 18 + j % 18]? = some ((mkc L[j / 18])[j % 18]'(by rw [mkc_len]; exact hk)) := flat_get mkc_len L (j / 18) (j % 18) _ _ (List.getElem?_eq_getElem hi) (List.getElem?_eq_getElem _)
  rw [show j / 18 * 18 + j % 18 = j by omega] at h1
  rw [Nat.zero_add, hc j _ h1, get_flatK mkc 18 _ j (by simpa using hj)]
  simp only [id]
  congr 1
  rw [show (L.toArray[j / 18]! : Mk) = L[j / 18] by simp [hi]]
  rw [getElem!_pos _ _ (by rw [mkc_len]; exact hk)]
theorem sl_marks {w : World} {g c : Nat} {d : Array Mk} (h : HoldsK mkc 18 w g 0 d) (hc : d.size ≤ c) : Sl mkc w (some ⟨g, 0, none⟩) d.size c d.toList := by
  refine ⟨by simp, hc, Rd.mk_ fun j u hj => ?_, fun q => by cases q⟩
  have hjl : j < d.size * 18 := by
    have := (List.getElem?_eq_some_iff.1 hj).1
    rw [flat_len mkc_len] at this
    simpa using this
  have hi : j / 18 < d.size := by omega
  have hk : j % 18 < 18 := Nat.mod_lt _ (by decide)
  have h1 : (d.toList.flatMap mkc)[j / 18 * 18 + j % 18]? = some ((mkc d[j / 18])[j % 18]'(by rw [mkc_len]; exact hk)) := flat_get mkc_len d.toList (j / 18) (j % 18) _ _ (by rw [Array.getElem?_toList]; exact Array.getElem?_eq_getElem hi) (List.getElem?_eq_getElem _)
  rw [show j / 18 * 18 + j % 18 = j by omega, hj] at h1
  have h2 := (h j (by simpa using hjl)).1
  rw [get_flatK mkc 18 _ j hjl, Nat.zero_add] at h2
  simp only [id] at h2
  rw [show ((⟨g, 0, none⟩ : Addr).add j) = ⟨g, j, none⟩ by unfold Addr.add; split <;> simp_all, h2, h1]
  congr 1
  rw [show (d[j / 18]! : Mk) = d[j / 18] from getElem!_pos d (j / 18) hi]
  rw [getElem!_pos _ _ (by rw [mkc_len]; exact hk)]
theorem grownBy_marks {w : World} {g n : Nat} {os : Array Obj} (d : Array Mk) : w.grownBy (sortWorldK mkc 18 w g 0 n d os) (some g) := by
  refine ⟨rfl, rfl, rfl, by simp [sortWorldK, putRowK, putRow, mapBlock, Sort.ahead], fun k hk hne => ?_⟩
  unfold sortWorldK putRowK
  rw [heap_grow_old _ _ (by simpa [putRow, mapBlock, Sort.ahead] using hk)]
  have : g ≠ k := fun e => hne (by rw [e])
  simp [putRow, mapBlock, Sort.ahead, Array.getElem?_modify, this]
theorem sorted_list {d d' : Array Mk} (hp : PermIn 0 d.size d d') (hs : SortedIn (Go.Proofs.ltOf cmpM) 0 d.size d') : d'.toList.Perm d.toList ∧ d'.size = d.size ∧ d'.toList.Pairwise (fun x y => ¬ mlt y x) := by
  obtain ⟨h1, _, h3⟩ := hp
  refine ⟨?_, h1, ?_⟩
  · rw [show d'.extract 0 d.size = d' by rw [← h1]; simp, show d.extract 0 d.size = d by simp] at h3
    exact h3
  · rw [List.pairwise_iff_getElem]
    intro i j hi hj hij
    have := hs i j (Nat.zero_le _) hij (by rw [← h1]; simpa using hj)
    rw [lt_Mf] at this
    rw [getElem!_pos d' j (by simpa using hj), getElem!_pos d' i (by simpa using hi)] at this
    simpa using this

/-- What Of hands back. -/
def OfR (w : World) (M : List Mk) (e : Ending) (w' : World) : Prop := ∃ (S : List Mk) (A' : Option Addr) (c' : Nat), S.Perm M ∧ S.Pairwise mlt ∧ e = .returned (.slice A' S.length c') ∧ w'.ownsRow w.heap.size 45 15 (.slice A' S.length c') S.length ((S.map Mk.e).flatMap evc) ∧ Below w.heap.size w w'
def SrtR (w0 w : World) (A : Option Addr) (n c : Nat) (M : List Mk) (e : Ending) (w' : World) : Prop := e = .returned (.tuple #[]) ∧ ∃ S : List Mk, S.Perm M ∧ S.Pairwise mlt ∧ Sl mkc w' A n c S ∧ Below w0.heap.size w0 w'
theorem sort_any {w0 w : World} {A : Option Addr} {n c k : Nat} {l : List Opp} (own : w.ownsRow w0.heap.size 54 18 (.slice A n c) n ((mks l k).flatMap mkc)) (hb : Below w0.heap.size w0 w) (hk : k ≤ 1000000) :
    Calls Try.prog 19 #[.slice A n c, .func (.func 20) #[] #[]] w (SrtR w0 w A n c (mks l k)) := by
  have hln := mks_len l k
  by_cases hn : n = 0
  · subst hn
    have hl := (Sl.of_own mkc_len (by decide) own).len
    have hM : mks l k = [] := List.eq_nil_of_length_eq_zero hl
    refine (AnyF.slices_SortFunc_none sortMk A c _ w).mono ?_
    rintro e w' ⟨rfl, rfl⟩
    have hs := Sl.of_own mkc_len (by decide) own
    rw [hM] at hs ⊢
    exact ⟨rfl, [], .nil, .nil, hs, hb⟩
  · obtain ⟨g, rfl, hB, hz, hf, hc⟩ := own_formx own (by omega)
    obtain ⟨hH, hl, _⟩ := holds_marks own (by omega)
    have hcap := (Sl.of_own mkc_len (by decide) own).cap
    have eg : ∀ args w, (callFunc 20 args).run Try.prog w = .ok (.enter 20 args) w := enters_of Try.func20 (by kernel_rfl) rfl
    have hcon := AnyQ.slices_SortFunc sortMk 18 Try.isAgg54 Try.sizeOf54 mkc mkc_len mkc_one cmpM swo_M 20 #[] g 0 c (mks l k).toArray w eg (cmplays g 0 _ w) hH hz (by simp; omega)
    rw [show (mks l k).toArray.size = n by simpa using hl] at hcon
    refine hcon.mono ?_
    rintro e w' ⟨rfl, d', nn, os, hp, hs, rfl⟩
    rw [show n = (mks l k).toArray.size by simpa using hl.symm] at hp hs
    obtain ⟨h1, h2, h3⟩ := sorted_list hp hs
    have hd : d'.size = n := by rw [h2]; simpa using hl
    have h1' : d'.toList.Perm (mks l k) := by simpa using h1
    have hsl := sl_marks (holdsK_sortWorldK_c mkc 18 w g 0 _ d' nn os hH hz h2) (c := c) (by omega)
    rw [hd] at hsl
    refine ⟨rfl, d'.toList, h1', pair_of_sorted h1' (mks_olt l k) h3, hsl, bgrown hb (grownBy_marks d') (fun k q => by cases q; exact hB)⟩

set_option maxHeartbeats 4000000 in
set_option maxRecDepth 100000 in
theorem of_any {w : World} {A : Option Addr} {n c : Nat} {l : List Opp} (h : Sl opc w A n c l) (hn : n ≤ 100000) : Calls Try.prog 14 #[.slice A n c] w (OfR w (mks l n)) := by
  obtain ⟨i0, E⟩ := elem_m
  obtain ⟨i1, E1⟩ := elem_e
  have hlen := h.len
  go_enter Try.func14, Try.ntmps14
  go_wp2_with fail
  go_loopg [3, 11] n (fun gk s3 i wr => ∃ (k m : Nat) (A' : Option Addr) (c' : Nat), k + gk = n ∧ i = .int .i64 k ∧ s3 = .slice A' m c' ∧ Hid (m = (mks l k).length) ∧ wr.ownsRow w.heap.size 54 18 (.slice A' m c') m ((mks l k).flatMap mkc) ∧ Below w.heap.size w wr)
  case atStart => exact ⟨0, 0, none, 0, by omega, rfl, rfl, rfl, World.ownsRow_nil _ _ _ _, brefl w⟩
  case round =>
    obtain ⟨k, m, A', c', hk, rfl, rfl, hm, own, kb⟩ := hrel
    by_cases hlt : k < n
    · obtain ⟨b, o', rfl, _, _⟩ := h.base opc_len (by decide) (by omega)
      obtain ⟨x, hx⟩ : ∃ x, l[k]? = some x := ⟨l[k]'(by omega), List.getElem?_eq_getElem (i := k) _⟩
      have r1 : wr.rangeAt b (o' + k * 16) [.int .i64 x.th, .int .i64 x.c.op, .int .i64 x.c.lv, .int .i64 x.c.key, .int .u64 x.c.a, .int .u64 x.c.b, .int .u64 x.c.h, .int .i64 x.c.rg, .int .i64 x.a.er, .int .u64 x.a.ra, .int .u64 x.a.rb, .int .u64 x.a.rh, .int .i64 x.a.n, .int .i64 x.a.k, .int .i64 x.fr, .int .i64 x.fin] := range_sl opc_len (h.below kb) hx
      have b0 : (0 : Int) ≤ (k : Int) := by omega
      have b1 : (k : Int) < (n : Int) := by omega
      have hmk : m ≤ 2 * k := by have := hm.out; have := mks_len l k; omega
      have HS : Hid (mks l (k + 1) = mks l k ++ mk1 x k) := by rw [Hid, mks, hx]
      clear hx h hlen
      obtain ⟨W1, hW1, hE, own1, kb1⟩ : ∃ W1, wr.alloc (.cells #[.int .i64 x.th, .int .i64 x.c.op, .int .i64 x.c.lv, .int .i64 x.c.key, .int .u64 x.c.a, .int .u64 x.c.b, .int .u64 x.c.h, .int .i64 x.c.rg, .int .i64 x.a.er, .int .u64 x.a.ra, .int .u64 x.a.rb, .int .u64 x.a.rh, .int .i64 x.a.n, .int .i64 x.a.k, .int .i64 x.fr, .int .i64 x.fin] 39) = W1 ∧ Blk W1 wr.heap.size 39 #[.int .i64 x.th, .int .i64 x.c.op, .int .i64 x.c.lv, .int .i64 x.c.key, .int .u64 x.c.a, .int .u64 x.c.b, .int .u64 x.c.h, .int .i64 x.c.rg, .int .i64 x.a.er, .int .u64 x.a.ra, .int .u64 x.a.rb, .int .u64 x.a.rh, .int .i64 x.a.n, .int .i64 x.a.k, .int .i64 x.fr, .int .i64 x.fin] ∧ W1.ownsRow w.heap.size 54 18 (.slice A' m c') m ((mks l k).flatMap mkc) ∧ Below w.heap.size w W1 := ⟨_, rfl, Blk.new _ _ _, own.alloc _, bnew kb _⟩
      have HW := Lib.hid hW1
      clear hW1
      have tok1 : True := trivial
      go_upto_region 5 with (have _t := tok1; refine wpList_load_mid (op := ⟨some 15, _, _, _, _, _⟩) rfl 39 (.tmp 14) rfl b (o' + k * 16) rfl [.int .i64 x.th, .int .i64 x.c.op, .int .i64 x.c.lv, .int .i64 x.c.key, .int .u64 x.c.a, .int .u64 x.c.b, .int .u64 x.c.h, .int .i64 x.c.rg, .int .i64 x.a.er, .int .u64 x.a.ra, .int .u64 x.a.rb, .int .u64 x.a.rh, .int .i64 x.a.n, .int .i64 x.a.k, .int .i64 x.fr, .int .i64 x.fin] _ r1 Try.underlying39 rfl (by kernel_rfl) ?_; clear tok1 _t)
      rw [HW.out]
      have d0 : W1.cell? ⟨wr.heap.size, 0, none⟩ = some (.int .i64 x.th) := hE.cell 0
      have d14 : W1.cell? ⟨wr.heap.size, 14, none⟩ = some (.int .i64 x.fr) := hE.cell 14
      have d15 : W1.cell? ⟨wr.heap.size, 15, none⟩ = some (.int .i64 x.fin) := hE.cell 15
      have c7 : W1.rangeAt wr.heap.size 1 [.int .i64 x.c.op, .int .i64 x.c.lv, .int .i64 x.c.key, .int .u64 x.c.a, .int .u64 x.c.b, .int .u64 x.c.h, .int .i64 x.c.rg] := range_blk hE 1 rfl
      have hzE := hE.lt
      have hws := kb.size
      clear r1 own kb HW
      generalize wr.heap.size = q at *
      by_cases hf : x.fr < 0
      · have HM : Hid (mks l (k + 1) = mks l k) := by rw [Hid, HS.out, mk1, if_pos hf, List.append_nil]
        go_wp2_with fail
        go_roundg (gk - 1)
        case measure => omega
        case rel =>
          refine ⟨k + 1, m, A', c', by omega, by go_num, rfl, ?_, ?_, kb1⟩
          · rw [Hid, HM.out]; exact hm.out
          · rw [HM.out]; exact own1
      · have tf : decide (x.fr < 0) = false := decide_eq_false hf
        have HF := Lib.hid hf
        clear hf
        have tok2 : True := trivial
        have tok3 : True := trivial
        go_upto_region 7 with (first | (have _t := tok2; refine wpList_load_mid (op := ⟨some 26, _, _, _, _, _⟩) rfl 34 (.tmp 25) rfl q (1) rfl [.int .i64 x.c.op, .int .i64 x.c.lv, .int .i64 x.c.key, .int .u64 x.c.a, .int .u64 x.c.b, .int .u64 x.c.h, .int .i64 x.c.rg] _ c7 Try.underlying34 rfl (by kernel_rfl) ?_; clear tok2 _t) | (have _t := tok3; at_builtin; refine wpList_onto (W0 := w) (ys := [.int .i64 x.fr, .int .i64 0, .int .i64 (k : Int), .int .i64 x.th, .bool false, .int .i64 x.c.op, .int .i64 x.c.lv, .int .i64 x.c.key, .int .u64 x.c.a, .int .u64 x.c.b, .int .u64 x.c.h, .int .i64 x.c.rg, .int .i64 0, .int .u64 0, .int .u64 0, .int .u64 0, .int .i64 0, .int .i64 0]) (m := 1) E rfl (.tmp 19) (.tmp 29) rfl (bnew kb1 _) rfl (own1.alloc _) rfl rfl (Rd.new _ _ _ rfl) (by simp [Value.oneCell']) (by unfold maxLen; omega) (by omega) ?_; intro A8 c8 w8 own8 hb8 hg8; clear tok3 _t))
        have hE8 := (hE.alloc _).grown hg8 (fun e => own_ne_blk own1 hE (by decide) e.symm)
        have d0 : w8.cell? ⟨q, 0, none⟩ = some (.int .i64 x.th) := hE8.cell 0
        have d15 : w8.cell? ⟨q, 15, none⟩ = some (.int .i64 x.fin) := hE8.cell 15
        have c8' : w8.rangeAt q 8 [.int .i64 x.a.er, .int .u64 x.a.ra, .int .u64 x.a.rb, .int .u64 x.a.rh, .int .i64 x.a.n, .int .i64 x.a.k] := range_blk hE8 8 rfl
        have hz8 := hE8.lt
        clear own1 hE kb1 c7 d14 hg8 hE8
        by_cases hf2 : x.fin < 0
        · have t2 : decide (0 ≤ x.fin) = false := decide_eq_false (by omega)
          have HM : Hid (mks l (k + 1) = mks l k ++ [⟨x.fr, 0, k, ⟨x.th, false, x.c, av0⟩⟩]) := by rw [Hid, HS.out, mk1, if_neg HF.out, if_pos hf2]
          clear hf2
          go_wp2_with fail
          go_roundg (gk - 1)
          case measure => omega
          case rel =>
            refine ⟨k + 1, m + 1, A8, c8, by omega, by go_num, rfl, ?_, ?_, hb8⟩
            · rw [Hid, HM.out, hm.out]; simp
            · rw [HM.out, List.flatMap_append]
              exact own8
        · have t2 : decide (0 ≤ x.fin) = true := decide_eq_true (by omega)
          have HM : Hid (mks l (k + 1) = (mks l k ++ [⟨x.fr, 0, k, ⟨x.th, false, x.c, av0⟩⟩]) ++ [⟨x.fin, 1, k, ⟨x.th, true, cv0, x.a⟩⟩]) := by rw [Hid, HS.out, mk1, if_neg HF.out, if_neg hf2, List.append_assoc]; rfl
          clear hf2
          have tok4 : True := trivial
          have tok5 : True := trivial
          go_wp2_with (first | (have _t := tok4; refine wpList_load_mid (op := ⟨some 41, _, _, _, _, _⟩) rfl 37 (.tmp 40) rfl q (8) rfl [.int .i64 x.a.er, .int .u64 x.a.ra, .int .u64 x.a.rb, .int .u64 x.a.rh, .int .i64 x.a.n, .int .i64 x.a.k] _ c8' Try.underlying37 rfl (by kernel_rfl) ?_; clear tok4 _t) | (have _t := tok5; at_builtin; refine wpList_onto (W0 := w) (ys := [.int .i64 x.fin, .int .i64 1, .int .i64 (k : Int), .int .i64 x.th, .bool true, .int .i64 0, .int .i64 0, .int .i64 0, .int .u64 0, .int .u64 0, .int .u64 0, .int .i64 0, .int .i64 x.a.er, .int .u64 x.a.ra, .int .u64 x.a.rb, .int .u64 x.a.rh, .int .i64 x.a.n, .int .i64 x.a.k]) (m := 1) E rfl (.tmp 34) (.tmp 44) rfl (bnew hb8 _) rfl (own8.alloc _) rfl rfl (Rd.new _ _ _ rfl) (by simp [Value.oneCell']) (by unfold maxLen; omega) (by omega) ?_; intro A9 c9 w9 own9 hb9 hg9; clear tok5 _t))
          go_roundg (gk - 1)
          case measure => omega
          case rel =>
            refine ⟨k + 1, m + 1 + 1, A9, c9, by omega, by go_num, rfl, ?_, ?_, hb9⟩
            · rw [Hid, HM.out, hm.out]; simp
            · rw [HM.out, List.flatMap_append, List.flatMap_append]
              exact own9
    · have t9 : decide (k < n) = false := decide_eq_false (by omega)
      obtain rfl : k = n := by omega
      have hmk : m ≤ 2 * k := by have := hm.out; have := mks_len l k; omega
      have hcon := sort_any own kb (by omega)
      clear own h hlen
      go_upto_region 11 with (go_at_call 19; refine hcon.mono ?_; rintro e w2 ⟨rfl, S, hp, hs, hS, kb2⟩)
      obtain ⟨W2, rfl⟩ : ∃ W2, W2 = w2 := ⟨_, rfl⟩
      have hSl := Lib.hid hS.len
      have HP := Lib.hid (And.intro hp hs)
      clear hcon hp hs kb
      go_wp2_with fail
      go_loopg [6, 51] m (fun gk s6 i wr => ∃ (j : Nat) (A2 : Option Addr) (c2 : Nat), j + gk = m ∧ i = .int .i64 j ∧ s6 = .slice A2 j c2 ∧ wr.ownsRow W2.heap.size 45 15 (.slice A2 j c2) j (((S.take j).map Mk.e).flatMap evc) ∧ Below W2.heap.size W2 wr)
      case atStart => exact ⟨0, none, 0, by omega, rfl, rfl, World.ownsRow_nil _ _ _ _, brefl _⟩
      case round =>
        obtain ⟨j, A2, c2, hj, rfl, rfl, own, kq⟩ := hrel
        by_cases hlt : j < m
        · obtain ⟨b, o', rfl, _, _⟩ := hS.base mkc_len (by decide) (by omega)
          obtain ⟨x, hx⟩ : ∃ x, S[j]? = some x := ⟨S[j]'(by have := hSl.out; omega), List.getElem?_eq_getElem (i := j) _⟩
          have r1 : wr.rangeAt b (o' + j * 18) [.int .i64 x.tm, .int .i64 x.bk, .int .i64 x.o, .int .i64 x.e.th, .bool x.e.bk, .int .i64 x.e.c.op, .int .i64 x.e.c.lv, .int .i64 x.e.c.key, .int .u64 x.e.c.a, .int .u64 x.e.c.b, .int .u64 x.e.c.h, .int .i64 x.e.c.rg, .int .i64 x.e.a.er, .int .u64 x.e.a.ra, .int .u64 x.e.a.rb, .int .u64 x.e.a.rh, .int .i64 x.e.a.n, .int .i64 x.e.a.k] := range_sl mkc_len (hS.below kq) hx
          have b0 : (0 : Int) ≤ (j : Int) := by omega
          have b1 : (j : Int) < (m : Int) := by omega
          have HS : Hid (S.take (j + 1) = S.take j ++ [x]) := by rw [Hid, List.take_add_one, hx]; rfl
          clear hx hS t9
          obtain ⟨W1, hW1, hE, own1, kq1⟩ : ∃ W1, wr.alloc (.cells #[.int .i64 x.tm, .int .i64 x.bk, .int .i64 x.o, .int .i64 x.e.th, .bool x.e.bk, .int .i64 x.e.c.op, .int .i64 x.e.c.lv, .int .i64 x.e.c.key, .int .u64 x.e.c.a, .int .u64 x.e.c.b, .int .u64 x.e.c.h, .int .i64 x.e.c.rg, .int .i64 x.e.a.er, .int .u64 x.e.a.ra, .int .u64 x.e.a.rb, .int .u64 x.e.a.rh, .int .i64 x.e.a.n, .int .i64 x.e.a.k] 54) = W1 ∧ Blk W1 wr.heap.size 54 #[.int .i64 x.tm, .int .i64 x.bk, .int .i64 x.o, .int .i64 x.e.th, .bool x.e.bk, .int .i64 x.e.c.op, .int .i64 x.e.c.lv, .int .i64 x.e.c.key, .int .u64 x.e.c.a, .int .u64 x.e.c.b, .int .u64 x.e.c.h, .int .i64 x.e.c.rg, .int .i64 x.e.a.er, .int .u64 x.e.a.ra, .int .u64 x.e.a.rb, .int .u64 x.e.a.rh, .int .i64 x.e.a.n, .int .i64 x.e.a.k] ∧ W1.ownsRow W2.heap.size 45 15 (.slice A2 j c2) j (((S.take j).map Mk.e).flatMap evc) ∧ Below W2.heap.size W2 W1 := ⟨_, rfl, Blk.new _ _ _, own.alloc _, bnew kq _⟩
          have HW := Lib.hid hW1
          clear hW1
          have tok1 : True := trivial
          go_upto_region 15 with (have _t := tok1; refine wpList_load_mid (op := ⟨some 54, _, _, _, _, _⟩) rfl 54 (.tmp 53) rfl b (o' + j * 18) rfl [.int .i64 x.tm, .int .i64 x.bk, .int .i64 x.o, .int .i64 x.e.th, .bool x.e.bk, .int .i64 x.e.c.op, .int .i64 x.e.c.lv, .int .i64 x.e.c.key, .int .u64 x.e.c.a, .int .u64 x.e.c.b, .int .u64 x.e.c.h, .int .i64 x.e.c.rg, .int .i64 x.e.a.er, .int .u64 x.e.a.ra, .int .u64 x.e.a.rb, .int .u64 x.e.a.rh, .int .i64 x.e.a.n, .int .i64 x.e.a.k] _ r1 Try.underlying54 rfl (by kernel_rfl) ?_; clear tok1 _t)
          rw [HW.out]
          have c3 : W1.rangeAt wr.heap.size 3 [.int .i64 x.e.th, .bool x.e.bk, .int .i64 x.e.c.op, .int .i64 x.e.c.lv, .int .i64 x.e.c.key, .int .u64 x.e.c.a, .int .u64 x.e.c.b, .int .u64 x.e.c.h, .int .i64 x.e.c.rg, .int .i64 x.e.a.er, .int .u64 x.e.a.ra, .int .u64 x.e.a.rb, .int .u64 x.e.a.rh, .int .i64 x.e.a.n, .int .i64 x.e.a.k] := range_blk hE 3 rfl
          have hzE := hE.lt
          clear r1 own HW kq hE
          generalize wr.heap.size = q at *
          have tok2 : True := trivial
          have tok3 : True := trivial
          go_wp2_with (first | (have _t := tok2; refine wpList_load_mid (op := ⟨some 57, _, _, _, _, _⟩) rfl 45 (.tmp 56) rfl q (3) rfl [.int .i64 x.e.th, .bool x.e.bk, .int .i64 x.e.c.op, .int .i64 x.e.c.lv, .int .i64 x.e.c.key, .int .u64 x.e.c.a, .int .u64 x.e.c.b, .int .u64 x.e.c.h, .int .i64 x.e.c.rg, .int .i64 x.e.a.er, .int .u64 x.e.a.ra, .int .u64 x.e.a.rb, .int .u64 x.e.a.rh, .int .i64 x.e.a.n, .int .i64 x.e.a.k] _ c3 Try.underlying45 rfl (by kernel_rfl) ?_; clear tok2 _t) | (have _t := tok3; at_builtin; refine wpList_onto (W0 := W2) (ys := [.int .i64 x.e.th, .bool x.e.bk, .int .i64 x.e.c.op, .int .i64 x.e.c.lv, .int .i64 x.e.c.key, .int .u64 x.e.c.a, .int .u64 x.e.c.b, .int .u64 x.e.c.h, .int .i64 x.e.c.rg, .int .i64 x.e.a.er, .int .u64 x.e.a.ra, .int .u64 x.e.a.rb, .int .u64 x.e.a.rh, .int .i64 x.e.a.n, .int .i64 x.e.a.k]) (m := 1) E1 rfl (.tmp 55) (.tmp 58) rfl (bnew kq1 _) rfl (own1.alloc _) rfl rfl (Rd.new _ _ _ rfl) (by simp [Value.oneCell']) (by unfold maxLen; omega) (by omega) ?_; intro A9 c9 w9 own9 hb9 hg9; clear tok3 _t))
          go_roundg (gk - 1)
          case measure => omega
          case rel =>
            refine ⟨j + 1, A9, c9, by omega, by go_num, rfl, ?_, hb9⟩
            rw [HS.out, List.map_append, List.flatMap_append]
            exact own9
        · have t8 : decide (j < m) = false := decide_eq_false (by omega)
          obtain rfl : j = m := by omega
          have hSl' := hSl.out
          clear hS t9
          rw [List.take_of_length_le (by omega)] at own
          subst hSl'
          go_wp2_with fail
          go_ret
          exact ⟨S, A2, c2, HP.out.1, HP.out.2, rfl, own_base own kb2.size, bnext kb2 kq⟩
end Go.Proofs.Ytkcilmnmbfbogaa
