/- The script of a text, by the document. -/
import Derived.Test.YtjjgngccgjpnaaaGreatDoorTxtYM
import Derived.Test.YtjjgngccgjpnaaaGreatDoorTxuBM
import Derived.Test.YtjjgngccgjpnaaaGreatDoorScrG
import Derived.Test.YtjjgngccgjpnaaaGreatDoorTxtR
import Derived.Test.YtjjgngccgjpnaaaGreatDoorScrP
namespace Go.Proofs.YtjjgngccgjpnaaaGreatDoor
set_option linter.unusedVariables false
set_option linter.unusedSimpArgs false
open Go.RowKit

theorem rline_any {w : World} {B N n c : Nat} {A EA : Option Addr} {ec : Nat} {ws : Wd} {s : St} {us : List Value} (hT : RT w B s us EA ec N) (hB : B ≤ w.heap.size) (hN : N ≤ 1000000) (h : Sl strc w A n c ws) (h1 : 1 ≤ n) (hn : n ≤ 1000001) (hl : ∀ x, x ∈ ws → x.length ≤ 1000000) : Calls Tryz.prog 33 #[.agg (rtc s us (.slice EA s.es.length ec)).toArray, .slice A n c] w (RLineR w B N s us EA ec (rLine s ws)) := by
  by_cases hc : ws.getD 0 [] = callB
  · exact rline_call hT hB hN h h1 hl hc
  · exact rline_other hT hB hN h h1 hn hl hc
theorem setCells_mid {g : Nat} {t : TypeId} : ∀ (vs xs pre rest : List Value) (w : World), vs.length = xs.length → Blk w g t (pre ++ (xs ++ rest)).toArray → Blk (w.setCells g pre.length vs) g t (pre ++ (vs ++ rest)).toArray
  | [], [], pre, rest, w, _, h => h
  | v :: vs, x :: xs, pre, rest, w, hl, h => by
    have h1 := h.set_ pre.length v
    have e : (pre ++ (x :: xs ++ rest)).toArray.setIfInBounds pre.length v = ((pre ++ [v]) ++ (xs ++ rest)).toArray := by
      rw [List.setIfInBounds_toArray, List.set_append_right _ _ (Nat.le_refl _), Nat.sub_self]
      simp
    rw [e] at h1
    have := setCells_mid vs xs (pre ++ [v]) rest _ (by simpa using hl) h1
    rw [List.length_append, List.append_assoc] at this
    exact this
  | [], _ :: _, _, _, _, h, _ => by cases h
  | _ :: _, [], _, _, _, h, _ => by cases h
theorem keeps_cells {g : Nat} : ∀ (vs : List Value) (k : Nat) (w0 w : World), Keeps (fun b => b = g) w0 w → Keeps (fun b => b = g) w0 (w.setCells g k vs)
  | [], _, _, _, h => h
  | v :: r, k, w0, w, h => keeps_cells r (k + 1) w0 _ (h.setCell (p := ⟨g, k, none⟩) (fun _ => rfl) v)
theorem brk_step {T : List UInt8} {j : Nat} {x : UInt8} (hx : T[j]? = some x) : brk 10 (T.drop j) = if x = 10 then some ([], T.drop (j + 1)) else (brk 10 (T.drop (j + 1))).map fun p => (x :: p.1, p.2) := by
  obtain ⟨h1, h2⟩ := List.getElem?_eq_some_iff.1 hx
  rw [List.drop_eq_getElem_cons h1, h2]
  rfl
theorem take_step {T : List UInt8} {k j : Nat} {x : UInt8} (hx : T[j]? = some x) (hkj : k ≤ j) : (T.drop k).take (j + 1 - k) = (T.drop k).take (j - k) ++ [x] := by
  obtain ⟨h1, h2⟩ := List.getElem?_eq_some_iff.1 hx
  rw [show j + 1 - k = (j - k) + 1 by omega, List.take_succ_eq_append_getElem (by rw [List.length_drop]; omega), List.getElem_drop]
  congr 2
  rw [← h2]
  congr 1
  omega
theorem eblk_ge {w : World} {B N : Nat} {s : St} {us : List Value} {EA : Option Addr} {ec : Nat} (h : RT w B s us EA ec N) : ∀ x, eblk EA s.es.length ec x → B ≤ x := fun x hx => by
  rcases h.e.2 with ⟨hv, _⟩ | ⟨g, cap, cur, hv, hg, _⟩
  · unfold eblk at hx
    rw [hv] at hx
    cases hx
  · unfold eblk at hx
    rw [hv] at hx
    have : g = x := by simpa [Value.ownBlock] using hx
    omega
theorem there14 {w : World} {g : Nat} {c : Cf} {rest : List Value} (h : Blk w g 76 ([] ++ (cfc c ++ rest)).toArray) : w.there g 0 14 := fun j hj => by
  have hl : j < (cfc c).length := by rw [show (cfc c).length = 14 from rfl]; exact hj
  have e : ([] ++ (cfc c ++ rest))[j]? = some ((cfc c)[j]) := by rw [List.nil_append, List.getElem?_append_left hl, List.getElem?_eq_getElem hl]
  exact ⟨by rw [Nat.zero_add, h.cell, List.getElem?_toArray, e]; rfl, h.frozen _⟩
def RTakeR (w : World) (x : Except (Nat × Int) St) (e : Ending) (w' : World) : Prop := Below w.heap.size w w' ∧ match x with
  | .error q => e = .returned (.tuple #[.agg #[.int .i64 0, .int .i64 0, .int .i64 0, .int .i64 0, .int .i64 0, .int .i64 0, .int .i64 0, .int .i64 0, .int .i64 0, .int .i64 0, .int .i64 0, .int .i64 0, .int .i64 0, .int .i64 0, .slice none 0 0, .slice none 0 0, .slice none 0 0, .slice none 0 0, .slice none 0 0, .slice none 0 0, .slice none 0 0, .slice none 0 0, .slice none 0 0], .int .i64 q.1, .int .i64 q.2])
  | .ok s => ∃ us EA ec, e = .returned (.tuple #[.agg (scc s.c us (.slice EA s.es.length ec)).toArray, .int .i64 0, .int .i64 0]) ∧ PIn (fun b => b < w.heap.size) w' us s.ps ∧ Sl enc_ w' EA s.es.length ec s.es ∧ (∀ l, l ∈ s.ps → l.length ≤ 1000000) ∧ s.es.length ≤ 1000000
theorem rTake_err {T : List UInt8} {n : Nat} (h : rLines (T.length + 1) 0 rst0 T = .error n) : rTake T = .error (n, 3) := by
  unfold rTake
  rw [h]
theorem rtc_scc {s : St} {us : List Value} {ev : Value} (h : us.length = 8) : ((rtc s us ev).drop 0).take (scc s.c us ev).length = scc s.c us ev := by
  unfold rtc
  rw [List.drop_zero]
  exact List.take_left
set_option maxHeartbeats 40000000 in
set_option maxRecDepth 100000 in
theorem rtake_any {w : World} (T : List UInt8) (hT : T.length ≤ 400000) : Calls Tryz.prog 9 #[.string (bstr T)] w (RTakeR w (rTake T)) := by
  obtain ⟨a, ha⟩ : ∃ a, w.heap.size = a := ⟨_, rfl⟩
  obtain ⟨s0, hs0⟩ : ∃ s0, bstr T = s0 := ⟨_, rfl⟩
  obtain ⟨TL, hTL⟩ : ∃ TL, T.length = TL := ⟨_, rfl⟩
  have hsz : s0.size = TL := by rw [← hs0, ← hTL]; rfl
  have HS0 := Lib.hid hs0
  have HTL := Lib.hid hTL
  rw [hs0]
  rw [hTL] at hT
  clear hs0 hTL
  go_enter Tryz.func9, Tryz.ntmps9
  go_upto_region 1 with (fail)
  have tok1 : True := trivial
  go_upto_region 2 with (have _t := tok1; refine wpList_store_row (o := ⟨none, .store 76 (.tmp 5) (.tmp 12), _, _, _, _⟩) rfl 76 (.tmp 5) (.tmp 12) rfl (a + 1) _ rfl rfl 76 _ (by have h2 := Blk.new (w.alloc (.cells #[.int .i64 0, .int .i64 0, .int .i64 0, .int .i64 0, .int .i64 0, .int .i64 0, .int .i64 0, .int .i64 0, .int .i64 0, .int .i64 0, .int .i64 0, .int .i64 0, .int .i64 0, .int .i64 0, .slice none 0 0, .slice none 0 0, .slice none 0 0, .slice none 0 0, .slice none 0 0, .slice none 0 0, .slice none 0 0, .slice none 0 0, .slice none 0 0] 30)) 76 #[.int .i64 0, .int .i64 0, .int .i64 0, .int .i64 0, .int .i64 0, .int .i64 0, .int .i64 0, .int .i64 0, .int .i64 0, .int .i64 0, .int .i64 0, .int .i64 0, .int .i64 0, .int .i64 0, .slice none 0 0, .slice none 0 0, .slice none 0 0, .slice none 0 0, .slice none 0 0, .slice none 0 0, .slice none 0 0, .slice none 0 0, .slice none 0 0, .int .i64 0, .int .i64 0, .int .i64 0, .bool false]; simp only [World.size_alloc, ha] at h2; exact h2) (by kernel_rfl) (by simp) (by simp [Value.oneCell']) ?_; clear tok1 _t)
  obtain ⟨W0, hW0, A0, T0, k0, z0⟩ : ∃ W0, ((w.alloc (.cells #[.int .i64 0, .int .i64 0, .int .i64 0, .int .i64 0, .int .i64 0, .int .i64 0, .int .i64 0, .int .i64 0, .int .i64 0, .int .i64 0, .int .i64 0, .int .i64 0, .int .i64 0, .int .i64 0, .slice none 0 0, .slice none 0 0, .slice none 0 0, .slice none 0 0, .slice none 0 0, .slice none 0 0, .slice none 0 0, .slice none 0 0, .slice none 0 0] 30)).alloc (.cells #[.int .i64 0, .int .i64 0, .int .i64 0, .int .i64 0, .int .i64 0, .int .i64 0, .int .i64 0, .int .i64 0, .int .i64 0, .int .i64 0, .int .i64 0, .int .i64 0, .int .i64 0, .int .i64 0, .slice none 0 0, .slice none 0 0, .slice none 0 0, .slice none 0 0, .slice none 0 0, .slice none 0 0, .slice none 0 0, .slice none 0 0, .slice none 0 0, .int .i64 0, .int .i64 0, .int .i64 0, .bool false] 76)).setRow (a + 1) #[.int .i64 0, .int .i64 0, .int .i64 0, .int .i64 0, .int .i64 0, .int .i64 0, .int .i64 0, .int .i64 0, .int .i64 0, .int .i64 0, .int .i64 0, .int .i64 0, .int .i64 0, .int .i64 0, .slice none 0 0, .slice none 0 0, .slice none 0 0, .slice none 0 0, .slice none 0 0, .slice none 0 0, .slice none 0 0, .slice none 0 0, .slice none 0 0, .int .i64 0, .int .i64 0, .int .i64 0, .bool false] = W0 ∧ Blk W0 a 30 #[.int .i64 0, .int .i64 0, .int .i64 0, .int .i64 0, .int .i64 0, .int .i64 0, .int .i64 0, .int .i64 0, .int .i64 0, .int .i64 0, .int .i64 0, .int .i64 0, .int .i64 0, .int .i64 0, .slice none 0 0, .slice none 0 0, .slice none 0 0, .slice none 0 0, .slice none 0 0, .slice none 0 0, .slice none 0 0, .slice none 0 0, .slice none 0 0] ∧ Blk W0 (a + 1) 76 (rtc rst0 nil8 (.slice none 0 0)).toArray ∧ Below w.heap.size w W0 ∧ W0.heap.size = a + 2 := by
    have h1 := Blk.new w 30 #[.int .i64 0, .int .i64 0, .int .i64 0, .int .i64 0, .int .i64 0, .int .i64 0, .int .i64 0, .int .i64 0, .int .i64 0, .int .i64 0, .int .i64 0, .int .i64 0, .int .i64 0, .int .i64 0, .slice none 0 0, .slice none 0 0, .slice none 0 0, .slice none 0 0, .slice none 0 0, .slice none 0 0, .slice none 0 0, .slice none 0 0, .slice none 0 0]
    have h2 := Blk.new (w.alloc (.cells #[.int .i64 0, .int .i64 0, .int .i64 0, .int .i64 0, .int .i64 0, .int .i64 0, .int .i64 0, .int .i64 0, .int .i64 0, .int .i64 0, .int .i64 0, .int .i64 0, .int .i64 0, .int .i64 0, .slice none 0 0, .slice none 0 0, .slice none 0 0, .slice none 0 0, .slice none 0 0, .slice none 0 0, .slice none 0 0, .slice none 0 0, .slice none 0 0] 30)) 76 #[.int .i64 0, .int .i64 0, .int .i64 0, .int .i64 0, .int .i64 0, .int .i64 0, .int .i64 0, .int .i64 0, .int .i64 0, .int .i64 0, .int .i64 0, .int .i64 0, .int .i64 0, .int .i64 0, .slice none 0 0, .slice none 0 0, .slice none 0 0, .slice none 0 0, .slice none 0 0, .slice none 0 0, .slice none 0 0, .slice none 0 0, .slice none 0 0, .int .i64 0, .int .i64 0, .int .i64 0, .bool false]
    simp only [World.size_alloc, ha] at h1 h2
    have kr := keeps_row ((w.alloc (.cells #[.int .i64 0, .int .i64 0, .int .i64 0, .int .i64 0, .int .i64 0, .int .i64 0, .int .i64 0, .int .i64 0, .int .i64 0, .int .i64 0, .int .i64 0, .int .i64 0, .int .i64 0, .int .i64 0, .slice none 0 0, .slice none 0 0, .slice none 0 0, .slice none 0 0, .slice none 0 0, .slice none 0 0, .slice none 0 0, .slice none 0 0, .slice none 0 0] 30)).alloc (.cells #[.int .i64 0, .int .i64 0, .int .i64 0, .int .i64 0, .int .i64 0, .int .i64 0, .int .i64 0, .int .i64 0, .int .i64 0, .int .i64 0, .int .i64 0, .int .i64 0, .int .i64 0, .int .i64 0, .slice none 0 0, .slice none 0 0, .slice none 0 0, .slice none 0 0, .slice none 0 0, .slice none 0 0, .slice none 0 0, .slice none 0 0, .slice none 0 0, .int .i64 0, .int .i64 0, .int .i64 0, .bool false] 76)) (a + 1) #[.int .i64 0, .int .i64 0, .int .i64 0, .int .i64 0, .int .i64 0, .int .i64 0, .int .i64 0, .int .i64 0, .int .i64 0, .int .i64 0, .int .i64 0, .int .i64 0, .int .i64 0, .int .i64 0, .slice none 0 0, .slice none 0 0, .slice none 0 0, .slice none 0 0, .slice none 0 0, .slice none 0 0, .slice none 0 0, .slice none 0 0, .slice none 0 0, .int .i64 0, .int .i64 0, .int .i64 0, .bool false]
    exact ⟨_, rfl, kr.blk (h1.alloc _) (by omega), h2.row _, kr.below (bnew (bnew (brefl w) _) _) (by simp; omega) (fun x e _ => by have e' : x = a + 1 := e; omega), by simp [World.setRow, ha]⟩
  rw [hW0]
  clear hW0
  have RT0 : RT W0 a rst0 nil8 none 0 0 := ⟨OW.nil W0 a, World.ownsRow_nil _ _ _ _, fun l hl => by
    have : l = [] := by simpa [rst0, nil8P] using hl
    subst this
    simp, by decide, by decide⟩
  have HA := Lib.hid A0
  have HT0 := Lib.hid T0
  have HR0 := Lib.hid RT0
  clear A0 T0 RT0
  go_wp2_with fail
  go_loopg [6, 7] (TL + 1) (fun gk s6 s7 wr => ∃ (k m n : Nat) (r : St) (us : List Value) (EA : Option Addr) (ec : Nat), s6 = .int .i64 k ∧ s7 = .int .i64 m ∧ Hid (m = n) ∧ k ≤ TL ∧ TL - k < gk ∧ m + gk ≤ TL + 1 ∧ Hid (n = 0 → r = rst0) ∧ Hid (RT wr a r us EA ec n) ∧ Hid (Blk wr (a + 1) 76 (rtc r us (.slice EA r.es.length ec)).toArray) ∧ Hid (Blk wr a 30 #[.int .i64 0, .int .i64 0, .int .i64 0, .int .i64 0, .int .i64 0, .int .i64 0, .int .i64 0, .int .i64 0, .int .i64 0, .int .i64 0, .int .i64 0, .int .i64 0, .int .i64 0, .int .i64 0, .slice none 0 0, .slice none 0 0, .slice none 0 0, .slice none 0 0, .slice none 0 0, .slice none 0 0, .slice none 0 0, .slice none 0 0, .slice none 0 0]) ∧ Below w.heap.size w wr ∧ Hid (rLines (T.length + 1) 0 rst0 T = rLines gk n r (T.drop k)))
  case atStart => exact ⟨0, 0, 0, rst0, nil8, none, 0, rfl, rfl, rfl, by omega, by omega, by omega, fun _ => rfl, HR0, HT0, HA, k0, by rw [Hid, HTL.out, List.drop_zero]⟩
  case round =>
    obtain ⟨k, m, n, r, us, EA, ec, rfl, rfl, hmn, hkT, hlt, hng, hn0, hRT, hTB, hA, hb, hpl⟩ := hrel
    obtain ⟨g, rfl⟩ : ∃ g, gk = g + 1 := ⟨gk - 1, by omega⟩
    have h8 := hRT.out.o.u8
    by_cases hx : 0 < m ∧ k = TL
    · obtain ⟨hm0, hkk⟩ := hx
      have hE : Hid (rLines (T.length + 1) 0 rst0 T = .ok r) := by
        have hn := hmn.out
        rw [Hid, hpl.out, rLines, if_pos ⟨by omega, List.drop_eq_nil_of_le (by rw [HTL.out]; omega)⟩]
      have t0 : decide ((k : Int) < (TL : Int)) = false := decide_eq_false (by omega)
      have t1 : ((m : Int) == 0) = false := by rw [beq_eq_false_iff_ne]; omega
      have TB := hTB.out
      have AB := hA.out
      obtain ⟨cs, hcs⟩ : ∃ cs, scc r.c us (.slice EA r.es.length ec) = cs := ⟨_, rfl⟩
      have r1 : wr.rangeAt (a + 1) 0 cs := hcs ▸ range_blk TB 0 (rtc_scc h8)
      have hi : (Tryz.prog.info? 30).map (·.size) = some cs.length := by rw [← hcs, scc_len h8]; kernel_rfl
      have x0 : wr.cell? ⟨a + 1, 0, none⟩ = some (.int .i64 r.c.lv) := TB.cell 0
      have hR : ∀ w', Below wr.heap.size wr w' → Calls Tryz.prog 14 #[.agg cs.toArray, .int .i64 (IntKind.i64.wrap (r.c.lv - 1))] w' (RightR w' (rightN r.c r.ps r.es (IntKind.i64.wrap (r.c.lv - 1)))) := fun w' h => by
        have hrt := hRT.out.below h
        rw [← hcs]
        exact rright_any (hrt.o.pin.weak (fun b e => e.elim)) (Sl.of_own enc__len (by decide) hrt.e) (by have := hrt.es; omega) (fun l hl => by have := hrt.ps l hl; have := hmn.out; omega) _
      obtain ⟨lv1, hlv⟩ : ∃ lv1, IntKind.i64.wrap (r.c.lv - 1) = lv1 := ⟨_, rfl⟩
      rw [hlv] at hR
      have hone : cs.toArray.all (·.oneCell') = true := hcs ▸ scc_one (c := r.c) hRT.out.o.pin EA r.es.length ec
      have hold : (#[.int .i64 0, .int .i64 0, .int .i64 0, .int .i64 0, .int .i64 0, .int .i64 0, .int .i64 0, .int .i64 0, .int .i64 0, .int .i64 0, .int .i64 0, .int .i64 0, .int .i64 0, .int .i64 0, .slice none 0 0, .slice none 0 0, .slice none 0 0, .slice none 0 0, .slice none 0 0, .slice none 0 0, .slice none 0 0, .slice none 0 0, .slice none 0 0] : Array Value).size = cs.toArray.size := by rw [← hcs, List.size_toArray, List.size_toArray, scc_len h8]; rfl
      have hi2 : (Tryz.prog.info? 30).map (·.size) = some cs.toArray.size := by rw [List.size_toArray]; exact hi
      have HCS := Lib.hid hcs
      cases hm : decide (rightN r.c r.ps r.es lv1 = 0) with
      | true =>
        have hm0 : rightN r.c r.ps r.es lv1 = 0 := of_decide_eq_true hm
        have hX : Hid (rTake T = .ok r) := by
          rw [Hid, rTake, hE.out]
          simp only []
          rw [hlv, if_pos hm0]
        rw [hm0] at hR
        have HR : Hid (∀ w', Below wr.heap.size wr w' → Calls Tryz.prog 14 #[.agg cs.toArray, .int .i64 lv1] w' (RightR w' 0)) := hR
        clear hR hm hm0 hE hcs
        go_upto_region 19 with (fail)
        have tok1 : True := trivial; have tok2 : True := trivial; have tok3 : True := trivial
        go_upto_region 20 with (first | (have _t := tok1; refine wpList_load_mid (op := ⟨some 69, _, _, _, _, _⟩) rfl 30 (.tmp 68) rfl (a + 1) (0) rfl cs _ r1 Tryz.underlying30 rfl hi ?_; clear tok1 _t) | (go_at_call 14; refine (HR.out _ (brefl _)).mono ?_; rintro e w2 ⟨rfl, m1⟩; have A2 := AB.below_ m1; have r2 : w2.rangeAt (a + 1) 0 cs := fun j v hj => keep_below (r1 j v hj) m1))
        go_upto_region 22 with (fail)
        go_wp2_with (first | (have _t := tok2; refine wpList_load_mid (op := ⟨some 81, _, _, _, _, _⟩) rfl 30 (.tmp 80) rfl (a + 1) (0) rfl cs _ r2 Tryz.underlying30 rfl hi ?_; clear tok2 _t) | (have _t := tok3; refine wpList_store_row (o := ⟨none, .store 30 (.tmp 2) (.tmp 81), _, _, _, _⟩) rfl 30 (.tmp 2) (.tmp 81) rfl a _ rfl rfl 30 _ A2 hi2 hold hone ?_; clear tok3 _t))
        have kr := keeps_row w2 a cs.toArray
        have hRT2 := (hRT.out.below m1).keeps kr (fun b e _ => ⟨_, _, e ▸ A2, by decide, by decide⟩)
        have HX : RTakeR w (rTake T) (.returned (.tuple #[.agg cs.toArray, .int .i64 0, .int .i64 0])) (w2.setRow a cs.toArray) := by
          rw [hX.out]
          exact ⟨kr.below (bnext hb m1) (by have := A2.lt; omega) (fun x e _ => by have e' : x = a := e; omega), us, EA, ec, by rw [HCS.out], hRT2.o.pin.weak (fun b h => by have h' : b < w.heap.size := h; show b < a; omega), Sl.of_own enc__len (by decide) hRT2.e, fun l hl => by have := hRT2.ps l hl; have := hmn.out; omega, by have := hRT2.es; omega⟩
        exact bodyPost_ret (results_three Tryz.results9 rfl rfl rfl (A2.row cs.toArray) hi2) rfl HX
      | false =>
        have hm0 : rightN r.c r.ps r.es lv1 ≠ 0 := of_decide_eq_false hm
        have hX : Hid (rTake T = .error (0, rightN r.c r.ps r.es lv1)) := by
          rw [Hid, rTake, hE.out]
          simp only []
          rw [hlv, if_neg hm0]
        obtain ⟨mm, hmm⟩ : ∃ mm, rightN r.c r.ps r.es lv1 = mm := ⟨_, rfl⟩
        rw [hmm] at hR hm0 hX
        have HR : Hid (∀ w', Below wr.heap.size wr w' → Calls Tryz.prog 14 #[.agg cs.toArray, .int .i64 lv1] w' (RightR w' mm)) := hR
        have tm : (mm != 0) = true := by rw [bne_iff_ne]; exact hm0
        have tm' : (mm == 0) = false := by rw [beq_eq_false_iff_ne]; exact hm0
        clear hR hm hm0 hE hcs hmm
        go_upto_region 19 with (fail)
        have tok1 : True := trivial; have tok2 : True := trivial
        go_upto_region 20 with (first | (have _t := tok1; refine wpList_load_mid (op := ⟨some 69, _, _, _, _, _⟩) rfl 30 (.tmp 68) rfl (a + 1) (0) rfl cs _ r1 Tryz.underlying30 rfl hi ?_; clear tok1 _t) | (go_at_call 14; refine (HR.out _ (brefl _)).mono ?_; rintro e w2 ⟨rfl, m1⟩; have A2 := AB.below_ m1))
        go_upto_region 21 with (fail)
        go_wp2_with (have _t := tok2; refine wpList_store_row (o := ⟨none, .store 30 (.tmp 2) (.tmp 78), _, _, _, _⟩) rfl 30 (.tmp 2) (.tmp 78) rfl a _ rfl rfl 30 _ A2 (by kernel_rfl) (by simp) (by simp [Value.oneCell']) ?_; clear tok2 _t)
        have kr := keeps_row w2 a #[.int .i64 0, .int .i64 0, .int .i64 0, .int .i64 0, .int .i64 0, .int .i64 0, .int .i64 0, .int .i64 0, .int .i64 0, .int .i64 0, .int .i64 0, .int .i64 0, .int .i64 0, .int .i64 0, .slice none 0 0, .slice none 0 0, .slice none 0 0, .slice none 0 0, .slice none 0 0, .slice none 0 0, .slice none 0 0, .slice none 0 0, .slice none 0 0]
        have HX : RTakeR w (rTake T) (.returned (.tuple #[.agg #[.int .i64 0, .int .i64 0, .int .i64 0, .int .i64 0, .int .i64 0, .int .i64 0, .int .i64 0, .int .i64 0, .int .i64 0, .int .i64 0, .int .i64 0, .int .i64 0, .int .i64 0, .int .i64 0, .slice none 0 0, .slice none 0 0, .slice none 0 0, .slice none 0 0, .slice none 0 0, .slice none 0 0, .slice none 0 0, .slice none 0 0, .slice none 0 0], .int .i64 0, .int .i64 mm])) (w2.setRow a #[.int .i64 0, .int .i64 0, .int .i64 0, .int .i64 0, .int .i64 0, .int .i64 0, .int .i64 0, .int .i64 0, .int .i64 0, .int .i64 0, .int .i64 0, .int .i64 0, .int .i64 0, .int .i64 0, .slice none 0 0, .slice none 0 0, .slice none 0 0, .slice none 0 0, .slice none 0 0, .slice none 0 0, .slice none 0 0, .slice none 0 0, .slice none 0 0]) := by
          rw [hX.out]
          exact ⟨kr.below (bnext hb m1) (by have := A2.lt; omega) (fun x e _ => by have e' : x = a := e; omega), rfl⟩
        exact bodyPost_ret (results_three Tryz.results9 rfl rfl rfl (A2.row _) (by kernel_rfl)) rfl HX
    · have c1 : IntKind.i64.wrap ((m : Int) + 1) = (m : Int) + 1 := IntWalk.i64_in _ (by omega)
      have hpl2 : Hid (rLines (T.length + 1) 0 rst0 T = match brk 10 (T.drop k) with
        | none => .error (n + 1)
        | some p => match rStep n r ((spl 32 p.1).map uenc) with
          | none => .error (n + 1)
          | some s' => rLines g (n + 1) s' p.2) := by
        have hne : ¬ (0 < n ∧ T.drop k = []) := by
          rintro ⟨hq1, hq⟩
          have hl := congrArg List.length hq
          rw [List.length_drop, HTL.out] at hl
          exact hx ⟨by have := hmn.out; omega, by simp at hl; omega⟩
        rw [Hid, hpl.out, rLines, if_neg hne]
        rfl
      have HMN := hmn.out
      by_cases hk : k < TL
      · have t0 : (k : Int) < (TL : Int) := by omega
        clear hpl HMN
        have HK0 := Lib.hid hkT
        go_upto_region 7 with (fail)
        go_loopg [8] (TL - k) (fun gk s8 wr' => ∃ j : Nat, s8 = .int .i64 j ∧ k ≤ j ∧ j + gk = TL ∧ wr = wr' ∧ Hid (brk 10 (T.drop k) = (brk 10 (T.drop j)).map fun p => ((T.drop k).take (j - k) ++ p.1, p.2)))
        case atStart => exact ⟨k, rfl, Nat.le_refl _, by omega, rfl, by rw [Hid, Nat.sub_self, List.take_zero]; cases brk 10 (T.drop k) with | none => rfl | some p => rfl⟩
        case round =>
          obtain ⟨j, rfl, hkj, hjT, rfl, hbk⟩ := hrel
          by_cases hj : j < TL
          · have t1 : (j : Int) < (TL : Int) := by omega
            have j0 : (0 : Int) ≤ (j : Int) := by omega
            obtain ⟨x, hxj⟩ : ∃ x, T[j]? = some x := ⟨_, List.getElem?_eq_getElem (by rw [HTL.out]; exact hj)⟩
            obtain ⟨hkx, hcx⟩ := byte_at (s := s0) (k := j) (c := x) (by rw [← HS0.out]; exact hxj)
            obtain ⟨y, hy⟩ : ∃ y, x.toNat = y := ⟨_, rfl⟩
            have hbs := brk_step hxj
            by_cases hx10 : x = 10
            · obtain rfl : y = 10 := by rw [← hy, hx10]; rfl
              have hP : Hid (brk 10 (T.drop k) = some ((T.drop k).take (j - k), T.drop (j + 1))) := by
                rw [Hid, hbk.out, hbs, if_pos hx10]
                simp
              obtain ⟨ln, hln⟩ : ∃ ln, (T.drop k).take (j - k) = ln := ⟨_, rfl⟩
              have hlnl : ln.length ≤ 400000 := by rw [← hln, List.length_take, List.length_drop, HTL.out]; omega
              have hex : s0.extract k j = bstr ln := by
                rw [← HS0.out, ← hln]
                apply ByteArray.ext
                apply Array.ext'
                simp [ByteArray.data_extract, bstr, List.drop_take, List.extract_eq_take_drop]
              rw [hln] at hP
              have hW := Lib.hid (fun W => rwords_any (w := W) ln (by omega))
              obtain ⟨L1, hL1⟩ : ∃ L1, bstr ln = L1 := ⟨_, rfl⟩
              rw [hL1] at hex hW
              have ck1 : IntKind.i64.wrap ((j : Int) + 1) = (j : Int) + 1 := IntWalk.i64_in _ (by omega)
              have tje : ((j : Int) == (TL : Int)) = false := by rw [beq_eq_false_iff_ne]; omega
              have hpl3 : Hid (rLines (T.length + 1) 0 rst0 T = match rStep n r (ewords ln) with
                | none => .error (n + 1)
                | some s' => rLines g (n + 1) s' (T.drop (j + 1))) := by
                rw [Hid, hpl2.out, hP.out]
                rfl
              have hkj' : (k : Int) ≤ (j : Int) := by omega
              have hkj0 : (0 : Int) ≤ (k : Int) := by omega
              clear hbk hbs hxj hx10 hpl2 hP hln hL1 HK0
              go_upto_region 11 with (fail)
              go_upto_region 12 with (go_at_call 31; refine (hW.out _).mono ?_; rintro e w1 ⟨AW, cw, rfl, ownw, hb1⟩)
              obtain ⟨nw, hnw⟩ : ∃ nw, (ewords ln).length = nw := ⟨_, rfl⟩
              rw [hnw] at ownw ⊢
              have hnw1 : 1 ≤ nw ∧ nw ≤ 400001 := by
                rw [← hnw]
                unfold ewords
                rw [List.length_map]
                have h1 := spl_len 32 ln
                have h2 := List.length_pos_iff.2 (spl_ne 32 ln)
                omega
              have hwl : ∀ x, x ∈ ewords ln → x.length ≤ 1000000 := fun x hx => by
                unfold ewords at hx
                obtain ⟨z, hz, rfl⟩ := List.mem_map.1 hx
                have := spl_mem 32 ln z hz
                have := (uenc_len z).2
                omega
              have HSL : Hid (Sl strc w1 AW nw cw (ewords ln)) := by
                rw [← strc_map] at ownw
                have := Sl.of_own strc_len (by decide) ownw
                exact this
              have T1 := hTB.out.below_ hb1
              have A1 := hA.out.below_ hb1
              have R1 := Lib.hid (hRT.out.below hb1)
              have kb1 := bnext hb hb1
              have hz1 := T1.lt
              have HWL := Lib.hid hwl
              have hB1 : a ≤ w1.heap.size := by omega
              clear ownw hnw hwl hex hW
              by_cases hm0 : m = 0
              · subst hm0
                have hn0' : n = 0 := hmn.out.symm
                have hr0 : r = rst0 := hn0.out hn0'
                subst hr0
                subst hn0'
                have hcf := Lib.hid (rconf_any HSL.out (by omega) HWL.out)
                have er : ∀ c, rtc { rst0 with c := c } us (.slice EA rst0.es.length ec) = [] ++ (cfc c ++ ((us ++ [Value.slice EA rst0.es.length ec]) ++ [Value.int .i64 0, Value.int .i64 0, Value.int .i64 0, Value.bool false])) := fun c => by
                  unfold rtc scc
                  rw [List.append_assoc, List.nil_append]
                  rfl
                have HT1 : Hid (Blk w1 (a + 1) 76 ([] ++ (cfc cf0 ++ ((us ++ [Value.slice EA rst0.es.length ec]) ++ [Value.int .i64 0, Value.int .i64 0, Value.int .i64 0, Value.bool false]))).toArray) := by
                  rw [Hid, ← er]
                  exact T1
                cases hrc : rConf (ewords ln) with
                | none =>
                  have hE : Hid (rTake T = .error (1, 3)) := rTake_err (by rw [hpl3.out, rStep, if_pos rfl, hrc]; rfl)
                  have hc : Hid (Calls Tryz.prog 32 #[.slice AW nw cw] w1 fun e w' => Below w1.heap.size w1 w' ∧ e = .returned (.tuple #[.agg #[.int .i64 0, .int .i64 0, .int .i64 0, .int .i64 0, .int .i64 0, .int .i64 0, .int .i64 0, .int .i64 0, .int .i64 0, .int .i64 0, .int .i64 0, .int .i64 0, .int .i64 0, .int .i64 0], .bool false])) := hcf.out.mono fun e w' q => by
                    have q1 := q.1
                    have q2 := q.2
                    rw [hrc] at q2
                    exact ⟨q1, q2⟩
                  clear hcf hrc hpl3 er
                  go_upto_region 14 with (fail)
                  have tok1 : True := trivial
                  go_upto_region 16 with (first | (go_at_call 32; refine hc.out.mono ?_; rintro e w2 ⟨hb2, rfl⟩; have T2 := HT1.out.below_ hb2; have A2 := A1.below_ hb2) | (have _t := tok1; refine wpList_store_mid (op := ⟨none, .store 25 (.tmp 55) (.tmp 52), _, _, _, _⟩) rfl 25 (.tmp 55) (.tmp 52) rfl (a + 1) 0 #[.int .i64 0, .int .i64 0, .int .i64 0, .int .i64 0, .int .i64 0, .int .i64 0, .int .i64 0, .int .i64 0, .int .i64 0, .int .i64 0, .int .i64 0, .int .i64 0, .int .i64 0, .int .i64 0] rfl rfl (there14 T2) (by kernel_rfl) (by simp [Value.oneCell']) ?_; clear tok1 _t))
                  have kc := keeps_cells (g := a + 1) [.int .i64 0, .int .i64 0, .int .i64 0, .int .i64 0, .int .i64 0, .int .i64 0, .int .i64 0, .int .i64 0, .int .i64 0, .int .i64 0, .int .i64 0, .int .i64 0, .int .i64 0, .int .i64 0] 0 w2 w2 (Keeps.refl _ _)
                  have A5 : Blk (w2.setCells (a + 1) 0 [.int .i64 0, .int .i64 0, .int .i64 0, .int .i64 0, .int .i64 0, .int .i64 0, .int .i64 0, .int .i64 0, .int .i64 0, .int .i64 0, .int .i64 0, .int .i64 0, .int .i64 0, .int .i64 0]) a 30 #[.int .i64 0, .int .i64 0, .int .i64 0, .int .i64 0, .int .i64 0, .int .i64 0, .int .i64 0, .int .i64 0, .int .i64 0, .int .i64 0, .int .i64 0, .int .i64 0, .int .i64 0, .int .i64 0, .slice none 0 0, .slice none 0 0, .slice none 0 0, .slice none 0 0, .slice none 0 0, .slice none 0 0, .slice none 0 0, .slice none 0 0, .slice none 0 0] := kc.blk A2 (by omega)
                  go_upto_region 17 with (fail)
                  have tok2 : True := trivial
                  go_wp2_with (have _t := tok2; refine wpList_store_row (o := ⟨none, .store 30 (.tmp 2) (.tmp 64), _, _, _, _⟩) rfl 30 (.tmp 2) (.tmp 64) rfl a _ rfl rfl 30 _ A5 (by kernel_rfl) (by simp) (by simp [Value.oneCell']) ?_; clear tok2 _t)
                  have kr := keeps_row (w2.setCells (a + 1) 0 [.int .i64 0, .int .i64 0, .int .i64 0, .int .i64 0, .int .i64 0, .int .i64 0, .int .i64 0, .int .i64 0, .int .i64 0, .int .i64 0, .int .i64 0, .int .i64 0, .int .i64 0, .int .i64 0]) a #[.int .i64 0, .int .i64 0, .int .i64 0, .int .i64 0, .int .i64 0, .int .i64 0, .int .i64 0, .int .i64 0, .int .i64 0, .int .i64 0, .int .i64 0, .int .i64 0, .int .i64 0, .int .i64 0, .slice none 0 0, .slice none 0 0, .slice none 0 0, .slice none 0 0, .slice none 0 0, .slice none 0 0, .slice none 0 0, .slice none 0 0, .slice none 0 0]
                  have HX : RTakeR w (rTake T) (.returned (.tuple #[.agg #[.int .i64 0, .int .i64 0, .int .i64 0, .int .i64 0, .int .i64 0, .int .i64 0, .int .i64 0, .int .i64 0, .int .i64 0, .int .i64 0, .int .i64 0, .int .i64 0, .int .i64 0, .int .i64 0, .slice none 0 0, .slice none 0 0, .slice none 0 0, .slice none 0 0, .slice none 0 0, .slice none 0 0, .slice none 0 0, .slice none 0 0, .slice none 0 0], .int .i64 1, .int .i64 3])) ((w2.setCells (a + 1) 0 [.int .i64 0, .int .i64 0, .int .i64 0, .int .i64 0, .int .i64 0, .int .i64 0, .int .i64 0, .int .i64 0, .int .i64 0, .int .i64 0, .int .i64 0, .int .i64 0, .int .i64 0, .int .i64 0]).setRow a #[.int .i64 0, .int .i64 0, .int .i64 0, .int .i64 0, .int .i64 0, .int .i64 0, .int .i64 0, .int .i64 0, .int .i64 0, .int .i64 0, .int .i64 0, .int .i64 0, .int .i64 0, .int .i64 0, .slice none 0 0, .slice none 0 0, .slice none 0 0, .slice none 0 0, .slice none 0 0, .slice none 0 0, .slice none 0 0, .slice none 0 0, .slice none 0 0]) := by
                    rw [hE.out]
                    exact ⟨kr.below (kc.below (bnext kb1 hb2) (by have := hb2.size; have := kb1.size; omega) (fun x e _ => by have e' : x = a + 1 := e; omega)) (by have := A5.lt; omega) (fun x e _ => by have e' : x = a := e; omega), rfl⟩
                  exact bodyPost_ret (results_three Tryz.results9 rfl rfl rfl (A5.row _) (by kernel_rfl)) rfl HX
                | some c =>
                  have hE : Hid (rLines (T.length + 1) 0 rst0 T = rLines g (0 + 1) { rst0 with c := c } (T.drop (j + 1))) := by rw [Hid, hpl3.out, rStep, if_pos rfl, hrc]; rfl
                  have hth : c.th ≤ 8 := pConf_th (ws := ewords ln) (by rw [← rConf_eq]; exact hrc)
                  have hc : Hid (Calls Tryz.prog 32 #[.slice AW nw cw] w1 fun e w' => Below w1.heap.size w1 w' ∧ e = .returned (.tuple #[.agg (cfc c).toArray, .bool true])) := hcf.out.mono fun e w' q => by
                    have q1 := q.1
                    have q2 := q.2
                    rw [hrc] at q2
                    exact ⟨q1, q2⟩
                  have hic : (Tryz.prog.info? 25).map (·.size) = some (cfc c).toArray.size := by kernel_rfl
                  have hoc := cfc_one c
                  obtain ⟨cc, hcc⟩ : ∃ cc, cfc c = cc := ⟨_, rfl⟩
                  have hcl : cc.length = 14 := by rw [← hcc]; rfl
                  rw [hcc] at hc hic hoc
                  have HCC := Lib.hid hcc
                  clear hcf hrc hpl3 hcc
                  go_upto_region 14 with (fail)
                  have tok1 : True := trivial
                  go_upto_region 16 with (first | (go_at_call 32; refine hc.out.mono ?_; rintro e w2 ⟨hb2, rfl⟩; have T2 := HT1.out.below_ hb2; have A2 := A1.below_ hb2) | (have _t := tok1; refine wpList_store_mid (op := ⟨none, .store 25 (.tmp 55) (.tmp 52), _, _, _, _⟩) rfl 25 (.tmp 55) (.tmp 52) rfl (a + 1) 0 cc.toArray rfl rfl (by rw [List.size_toArray, hcl]; exact there14 T2) hic hoc ?_; clear tok1 _t))
                  obtain ⟨V, hV, TV, AV, RV, kV⟩ : ∃ V, w2.setCells (a + 1) 0 cc = V ∧ Blk V (a + 1) 76 (rtc { rst0 with c := c } us (.slice EA rst0.es.length ec)).toArray ∧ Blk V a 30 #[.int .i64 0, .int .i64 0, .int .i64 0, .int .i64 0, .int .i64 0, .int .i64 0, .int .i64 0, .int .i64 0, .int .i64 0, .int .i64 0, .int .i64 0, .int .i64 0, .int .i64 0, .int .i64 0, .slice none 0 0, .slice none 0 0, .slice none 0 0, .slice none 0 0, .slice none 0 0, .slice none 0 0, .slice none 0 0, .slice none 0 0, .slice none 0 0] ∧ RT V a { rst0 with c := c } us EA ec (0 + 1) ∧ Below w.heap.size w V := by
                    have kc := keeps_cells (g := a + 1) cc 0 w2 w2 (Keeps.refl _ _)
                    have R2 := (R1.out.below hb2).keeps kc (fun b e _ => ⟨_, _, e ▸ T2, by decide, by decide⟩)
                    refine ⟨_, rfl, ?_, kc.blk A2 (by omega), ⟨R2.o, R2.e, fun l hl => Nat.le_succ_of_le (R2.ps l hl), R2.es, hth⟩, kc.below (bnext kb1 hb2) (by have := hb2.size; have := kb1.size; omega) (fun x e _ => by have e' : x = a + 1 := e; omega)⟩
                    rw [er, HCC.out]
                    exact setCells_mid cc (cfc cf0) [] _ w2 (by rw [hcl]; rfl) T2
                  try simp only [List.toList_toArray]
                  rw [hV]
                  clear hV
                  go_wp2_with fail
                  go_roundg g
                  case measure => omega
                  case rel => exact ⟨j + 1, 1, 1, _, us, EA, ec, by go_num, by go_num, rfl, by omega, by omega, by omega, fun q => by omega, RV, TV, AV, kV, hE⟩
              · have hn0' : n ≠ 0 := by have := hmn.out; omega
                have tm : ((m : Int) + 1 == 1) = false := by rw [beq_eq_false_iff_ne]; omega
                have tm' : ¬ ((m : Int) + 1 = 1) := by omega
                have hnb : n ≤ 1000000 := by have := hmn.out; omega
                have hlc := Lib.hid (rline_any R1.out hB1 hnb HSL.out hnw1.1 (by omega) HWL.out)
                have hi7 := info_rtc (s := r) (us := us) (ev := .slice EA r.es.length ec) h8
                obtain ⟨cs, hcs⟩ : ∃ cs, (rtc r us (.slice EA r.es.length ec)).toArray = cs := ⟨_, rfl⟩
                rw [hcs] at T1 hi7
                have HCS := Lib.hid hcs
                have hes := eblk_ge R1.out
                cases hrl : rLine r (ewords ln) with
                | none =>
                  have hE : Hid (rTake T = .error (n + 1, 3)) := rTake_err (by rw [hpl3.out, rStep, if_neg hn0', hrl])
                  have hc : Hid (Calls Tryz.prog 33 #[.agg cs, .slice AW nw cw] w1 fun e w' => Keeps (eblk EA r.es.length ec) w1 w' ∧ e = .returned (.tuple #[.agg cs, .bool false])) := by
                    have := hlc.out
                    rw [hcs] at this
                    refine this.mono fun e w' q => ?_
                    have q1 := q.1
                    have q2 := q.2
                    rw [hrl] at q2
                    exact ⟨q1, by rw [hcs] at q2; exact q2⟩
                  have hone7 : cs.all (·.oneCell') = true := hcs ▸ rtc_one (s := r) R1.out.o.pin EA r.es.length ec
                  clear hlc hrl hpl3 hcs
                  go_upto_region 15 with (fail)
                  have tok1 : True := trivial; have tok2 : True := trivial
                  go_upto_region 16 with (first | (have _t := tok1; refine wpList_load_row (o := ⟨some 57, _, _, _, _, _⟩) rfl 76 (.tmp 5) rfl (a + 1) rfl 76 _ _ _ T1 Tryz.underlying76 rfl hi7 ?_; clear tok1 _t) | (go_at_call 33; refine hc.out.mono ?_; rintro e w2 ⟨k2, rfl⟩; have T2 := k2.blk T1 (fun q => by exact own_ne_blk R1.out.e T1 (by decide) q); have A2 := k2.blk A1 (fun q => by exact own_ne_blk R1.out.e A1 (by decide) q)) | (have _t := tok2; refine wpList_store_row (o := ⟨none, .store 76 (.tmp 5) (.tmp 60), _, _, _, _⟩) rfl 76 (.tmp 5) (.tmp 60) rfl (a + 1) _ rfl rfl 76 _ T2 hi7 rfl hone7 ?_; clear tok2 _t))
                  have kc := keeps_row w2 (a + 1) cs
                  have A5 : Blk (w2.setRow (a + 1) cs) a 30 #[.int .i64 0, .int .i64 0, .int .i64 0, .int .i64 0, .int .i64 0, .int .i64 0, .int .i64 0, .int .i64 0, .int .i64 0, .int .i64 0, .int .i64 0, .int .i64 0, .int .i64 0, .int .i64 0, .slice none 0 0, .slice none 0 0, .slice none 0 0, .slice none 0 0, .slice none 0 0, .slice none 0 0, .slice none 0 0, .slice none 0 0, .slice none 0 0] := kc.blk A2 (by omega)
                  go_upto_region 17 with (fail)
                  have tok3 : True := trivial
                  go_wp2_with (have _t := tok3; refine wpList_store_row (o := ⟨none, .store 30 (.tmp 2) (.tmp 64), _, _, _, _⟩) rfl 30 (.tmp 2) (.tmp 64) rfl a _ rfl rfl 30 _ A5 (by kernel_rfl) (by simp) (by simp [Value.oneCell']) ?_; clear tok3 _t)
                  have kr := keeps_row (w2.setRow (a + 1) cs) a #[.int .i64 0, .int .i64 0, .int .i64 0, .int .i64 0, .int .i64 0, .int .i64 0, .int .i64 0, .int .i64 0, .int .i64 0, .int .i64 0, .int .i64 0, .int .i64 0, .int .i64 0, .int .i64 0, .slice none 0 0, .slice none 0 0, .slice none 0 0, .slice none 0 0, .slice none 0 0, .slice none 0 0, .slice none 0 0, .slice none 0 0, .slice none 0 0]
                  have HX : RTakeR w (rTake T) (.returned (.tuple #[.agg #[.int .i64 0, .int .i64 0, .int .i64 0, .int .i64 0, .int .i64 0, .int .i64 0, .int .i64 0, .int .i64 0, .int .i64 0, .int .i64 0, .int .i64 0, .int .i64 0, .int .i64 0, .int .i64 0, .slice none 0 0, .slice none 0 0, .slice none 0 0, .slice none 0 0, .slice none 0 0, .slice none 0 0, .slice none 0 0, .slice none 0 0, .slice none 0 0], .int .i64 ((m : Int) + 1), .int .i64 3])) ((w2.setRow (a + 1) cs).setRow a #[.int .i64 0, .int .i64 0, .int .i64 0, .int .i64 0, .int .i64 0, .int .i64 0, .int .i64 0, .int .i64 0, .int .i64 0, .int .i64 0, .int .i64 0, .int .i64 0, .int .i64 0, .int .i64 0, .slice none 0 0, .slice none 0 0, .slice none 0 0, .slice none 0 0, .slice none 0 0, .slice none 0 0, .slice none 0 0, .slice none 0 0, .slice none 0 0]) := by
                    rw [hE.out]
                    refine ⟨kr.below (kc.below (k2.below kb1 (by omega) (fun x e _ => by have := hes x e; omega)) (by have := k2.size; omega) (fun x e _ => by have e' : x = a + 1 := e; omega)) (by have := A5.lt; omega) (fun x e _ => by have e' : x = a := e; omega), ?_⟩
                    have := hmn.out
                    rw [← this]
                    rfl
                  exact bodyPost_ret (results_three Tryz.results9 rfl rfl rfl (A5.row _) (by kernel_rfl)) rfl HX
                | some r' =>
                  have hE : Hid (rLines (T.length + 1) 0 rst0 T = rLines g (n + 1) r' (T.drop (j + 1))) := by rw [Hid, hpl3.out, rStep, if_neg hn0', hrl]
                  have hc : Hid (Calls Tryz.prog 33 #[.agg cs, .slice AW nw cw] w1 fun e w' => Keeps (eblk EA r.es.length ec) w1 w' ∧ ∃ (us' : List Value) (EA' : Option Addr) (ec' : Nat) (cs' : Array Value), Hid ((rtc r' us' (.slice EA' r'.es.length ec')).toArray = cs') ∧ e = .returned (.tuple #[.agg cs', .bool true]) ∧ RT w' a r' us' EA' ec' (n + 1)) := by
                    have := hlc.out
                    rw [hcs] at this
                    refine this.mono fun e w' q => ?_
                    have q1 := q.1
                    have q2 := q.2
                    rw [hrl] at q2
                    obtain ⟨us', EA', ec', e1, e2⟩ := q2
                    exact ⟨q1, us', EA', ec', _, rfl, e1, e2⟩
                  clear hlc hrl hpl3 hcs
                  go_upto_region 15 with (fail)
                  have tok1 : True := trivial; have tok2 : True := trivial
                  go_upto_region 16 with (first | (have _t := tok1; refine wpList_load_row (o := ⟨some 57, _, _, _, _, _⟩) rfl 76 (.tmp 5) rfl (a + 1) rfl 76 _ _ _ T1 Tryz.underlying76 rfl hi7 ?_; clear tok1 _t) | (go_at_call 33; refine hc.out.mono ?_; rintro e w2 ⟨k2, us', EA', ec', cs', hcs', rfl, R2⟩; have T2 := k2.blk T1 (fun q => by exact own_ne_blk R1.out.e T1 (by decide) q); have A2 := k2.blk A1 (fun q => by exact own_ne_blk R1.out.e A1 (by decide) q); have hi9 := info_rtc (s := r') (us := us') (ev := .slice EA' r'.es.length ec') R2.o.u8; have ho9 := rtc_one (s := r') R2.o.pin EA' r'.es.length ec'; have hz9 : cs.size = cs'.size := (by rw [← HCS.out, ← hcs'.out, List.size_toArray, List.size_toArray, rtc_len h8, rtc_len R2.o.u8]); rw [hcs'.out] at hi9 ho9) | (have _t := tok2; refine wpList_store_row (o := ⟨none, .store 76 (.tmp 5) (.tmp 60), _, _, _, _⟩) rfl 76 (.tmp 5) (.tmp 60) rfl (a + 1) _ rfl rfl 76 _ T2 hi9 hz9 ho9 ?_; clear tok2 _t))
                  obtain ⟨V, hV, TV, AV, RV, kV⟩ : ∃ V, w2.setRow (a + 1) cs' = V ∧ Blk V (a + 1) 76 (rtc r' us' (.slice EA' r'.es.length ec')).toArray ∧ Blk V a 30 #[.int .i64 0, .int .i64 0, .int .i64 0, .int .i64 0, .int .i64 0, .int .i64 0, .int .i64 0, .int .i64 0, .int .i64 0, .int .i64 0, .int .i64 0, .int .i64 0, .int .i64 0, .int .i64 0, .slice none 0 0, .slice none 0 0, .slice none 0 0, .slice none 0 0, .slice none 0 0, .slice none 0 0, .slice none 0 0, .slice none 0 0, .slice none 0 0] ∧ RT V a r' us' EA' ec' (n + 1) ∧ Below w.heap.size w V := by
                    have kc := keeps_row w2 (a + 1) cs'
                    refine ⟨_, rfl, ?_, kc.blk A2 (by omega), R2.keeps kc (fun b e _ => ⟨_, _, e ▸ T2, by decide, by decide⟩), kc.below (k2.below kb1 (by omega) (fun x e _ => by have := hes x e; omega)) (by have := k2.size; omega) (fun x e _ => by have e' : x = a + 1 := e; omega)⟩
                    rw [hcs'.out]
                    exact T2.row cs'
                  rw [hV]
                  clear hV hi9 ho9 hz9
                  go_wp2_with fail
                  go_roundg g
                  case measure => omega
                  case rel => exact ⟨j + 1, m + 1, n + 1, r', us', EA', ec', by go_num, by go_num, by have := hmn.out; show _ = _; omega, by omega, by omega, by omega, fun q => by omega, RV, TV, AV, kV, hE⟩
            · have hb2 : Hid (brk 10 (T.drop k) = (brk 10 (T.drop (j + 1))).map fun p => ((T.drop k).take (j + 1 - k) ++ p.1, p.2)) := by
                rw [Hid, hbk.out, hbs, if_neg hx10, Option.map_map, take_step hxj hkj]
                congr 1
                funext p
                simp
              have ty : ((y : Int) != 10) = true := by
                rw [bne_iff_ne]
                intro e
                exact hx10 (UInt8.toNat_inj.1 (by rw [hy]; show y = 10; omega))
              have ty' : ((y : Int) == 10) = false := by
                rw [beq_eq_false_iff_ne]
                intro e
                exact hx10 (UInt8.toNat_inj.1 (by rw [hy]; show y = 10; omega))
              have ck : IntKind.i64.wrap ((j : Int) + 1) = (j : Int) + 1 := IntWalk.i64_in _ (by omega)
              clear hbk hbs hxj hx10
              go_wp2_with fail
              go_roundg (gk - 1)
              case measure => omega
              case rel => exact ⟨j + 1, by go_num, by omega, by omega, rfl, hb2⟩
          · obtain rfl : j = TL := by omega
            have hE : Hid (rTake T = .error (n + 1, 3)) := by
              refine rTake_err ?_
              have e0 : T.drop j = [] := List.drop_eq_nil_of_le (by rw [HTL.out]; exact Nat.le_refl _)
              rw [hpl2.out, hbk.out, e0]
              rfl
            have t1 : decide ((j : Int) < (j : Int)) = false := decide_eq_false (by omega)
            have A5 := hA.out
            clear hbk hpl2
            go_upto_region 10 with (fail)
            have tok1 : True := trivial
            go_wp2_with (have _t := tok1; refine wpList_store_row (o := ⟨none, .store 30 (.tmp 2) (.tmp 40), _, _, _, _⟩) rfl 30 (.tmp 2) (.tmp 40) rfl a _ rfl rfl 30 _ A5 (by kernel_rfl) (by simp) (by simp [Value.oneCell']) ?_; clear tok1 _t)
            have kr := keeps_row wr a #[.int .i64 0, .int .i64 0, .int .i64 0, .int .i64 0, .int .i64 0, .int .i64 0, .int .i64 0, .int .i64 0, .int .i64 0, .int .i64 0, .int .i64 0, .int .i64 0, .int .i64 0, .int .i64 0, .slice none 0 0, .slice none 0 0, .slice none 0 0, .slice none 0 0, .slice none 0 0, .slice none 0 0, .slice none 0 0, .slice none 0 0, .slice none 0 0]
            have HX : RTakeR w (rTake T) (.returned (.tuple #[.agg #[.int .i64 0, .int .i64 0, .int .i64 0, .int .i64 0, .int .i64 0, .int .i64 0, .int .i64 0, .int .i64 0, .int .i64 0, .int .i64 0, .int .i64 0, .int .i64 0, .int .i64 0, .int .i64 0, .slice none 0 0, .slice none 0 0, .slice none 0 0, .slice none 0 0, .slice none 0 0, .slice none 0 0, .slice none 0 0, .slice none 0 0, .slice none 0 0], .int .i64 ((m : Int) + 1), .int .i64 3])) (wr.setRow a #[.int .i64 0, .int .i64 0, .int .i64 0, .int .i64 0, .int .i64 0, .int .i64 0, .int .i64 0, .int .i64 0, .int .i64 0, .int .i64 0, .int .i64 0, .int .i64 0, .int .i64 0, .int .i64 0, .slice none 0 0, .slice none 0 0, .slice none 0 0, .slice none 0 0, .slice none 0 0, .slice none 0 0, .slice none 0 0, .slice none 0 0, .slice none 0 0]) := by
              rw [hE.out]
              refine ⟨kr.below hb (by have := A5.lt; omega) (fun x e _ => by have e' : x = a := e; omega), ?_⟩
              have := hmn.out
              rw [← this]
              rfl
            exact bodyPost_ret (results_three Tryz.results9 rfl rfl rfl (A5.row _) (by kernel_rfl)) rfl HX
      · obtain rfl : m = 0 := by omega
        obtain rfl : k = TL := by omega
        have t0 : decide ((k : Int) < (k : Int)) = false := decide_eq_false (by omega)
        have hE : Hid (rTake T = .error (1, 3)) := by
          refine rTake_err ?_
          rw [hpl2.out, List.drop_eq_nil_of_le (by rw [HTL.out]; omega)]
          obtain rfl : n = 0 := by omega
          rfl
        have A5 := hA.out
        clear hpl hpl2 HMN
        go_upto_region 7 with (fail)
        go_loopg [8] 0 (fun gk s8 wr' => s8 = .int .i64 k ∧ wr = wr')
        case atStart => exact ⟨rfl, rfl⟩
        case round =>
          obtain ⟨rfl, rfl⟩ := hrel
          go_upto_region 10 with (fail)
          have tok1 : True := trivial
          go_wp2_with (have _t := tok1; refine wpList_store_row (o := ⟨none, .store 30 (.tmp 2) (.tmp 40), _, _, _, _⟩) rfl 30 (.tmp 2) (.tmp 40) rfl a _ rfl rfl 30 _ A5 (by kernel_rfl) (by simp) (by simp [Value.oneCell']) ?_; clear tok1 _t)
          have kr := keeps_row wr a #[.int .i64 0, .int .i64 0, .int .i64 0, .int .i64 0, .int .i64 0, .int .i64 0, .int .i64 0, .int .i64 0, .int .i64 0, .int .i64 0, .int .i64 0, .int .i64 0, .int .i64 0, .int .i64 0, .slice none 0 0, .slice none 0 0, .slice none 0 0, .slice none 0 0, .slice none 0 0, .slice none 0 0, .slice none 0 0, .slice none 0 0, .slice none 0 0]
          have HX : RTakeR w (rTake T) (.returned (.tuple #[.agg #[.int .i64 0, .int .i64 0, .int .i64 0, .int .i64 0, .int .i64 0, .int .i64 0, .int .i64 0, .int .i64 0, .int .i64 0, .int .i64 0, .int .i64 0, .int .i64 0, .int .i64 0, .int .i64 0, .slice none 0 0, .slice none 0 0, .slice none 0 0, .slice none 0 0, .slice none 0 0, .slice none 0 0, .slice none 0 0, .slice none 0 0, .slice none 0 0], .int .i64 1, .int .i64 3])) (wr.setRow a #[.int .i64 0, .int .i64 0, .int .i64 0, .int .i64 0, .int .i64 0, .int .i64 0, .int .i64 0, .int .i64 0, .int .i64 0, .int .i64 0, .int .i64 0, .int .i64 0, .int .i64 0, .int .i64 0, .slice none 0 0, .slice none 0 0, .slice none 0 0, .slice none 0 0, .slice none 0 0, .slice none 0 0, .slice none 0 0, .slice none 0 0, .slice none 0 0]) := by
            rw [hE.out]
            exact ⟨kr.below hb (by have := A5.lt; omega) (fun x e _ => by have e' : x = a := e; omega), rfl⟩
          exact bodyPost_ret (results_three Tryz.results9 rfl rfl rfl (A5.row _) (by kernel_rfl)) rfl HX
end Go.Proofs.YtjjgngccgjpnaaaGreatDoor
namespace Go.Proofs.YtjjgngccgjpnaaaGreatDoor
set_option linter.unusedVariables false
set_option linter.unusedSimpArgs false
open Go.RowKit

def Take3R (w : World) (c : Cf) (ps : List (List CV)) (es : List En) (n m : Int) (e : Ending) (w' : World) : Prop := Below w.heap.size w w' ∧ ∃ us EA ec ev, e = .returned (.tuple #[.agg (scc c us (.slice EA es.length ec)).toArray, .int .i64 n, ev]) ∧ PIn (fun _ => False) w' us ps ∧ Sl enc_ w' EA es.length ec es ∧ ErrAt w' ev m ∧ (∀ l, l ∈ ps → l.length ≤ 1000000) ∧ es.length ≤ 1000000
def RTake3R (w : World) (c : Cf) (ps : List (List CV)) (es : List En) (n m : Int) (e : Ending) (w' : World) : Prop := Below w.heap.size w w' ∧ ∃ us EA ec, e = .returned (.tuple #[.agg (scc c us (.slice EA es.length ec)).toArray, .int .i64 n, .int .i64 m]) ∧ PIn (fun _ => False) w' us ps ∧ Sl enc_ w' EA es.length ec es
theorem nil8_pin (w : World) : PIn (fun _ => False) w nil8 nil8P := (OW.nil w 0).pin.weak (fun _ h => h.elim)
theorem nil_sl (w : World) : Sl enc_ w none 0 0 [] := ⟨rfl, Nat.le_refl _, Rd.nil _ _, fun _ => ⟨rfl, rfl⟩⟩
set_option maxHeartbeats 4000000 in
set_option maxRecDepth 100000 in
theorem texttakes_any {w : World} (T : List UInt8) (hg : LV w) (hgv : GV w) : Calls Tryz.prog 3 #[.string (bstr T)] w fun e w' => e = .returned (.bool true) ∧ Below w.heap.size w w' := by
  obtain ⟨s0, hs0⟩ : ∃ s0, bstr T = s0 := ⟨_, rfl⟩
  obtain ⟨n0, hn0⟩ : ∃ n0, T.length = n0 := ⟨_, rfl⟩
  have hsz : s0.size = n0 := by rw [← hs0, ← hn0]; rfl
  have HG := Lib.hid hg
  have HGV := Lib.hid hgv
  by_cases h1 : 5000 < n0
  · have t1 : (5000 : Int) < (n0 : Int) := by omega
    have HLI := Lib.hid (lives40 hg)
    rw [hs0]
    clear hg hgv hs0 hn0
    go_enter Tryz.func3, Tryz.ntmps3
    go_wp2_with (go_at_call 7; refine HLI.out.mono ?_; rintro e w2 ⟨rfl, hb2⟩)
    go_ret
    exact ⟨rfl, hb2⟩
  · have t1 : decide ((5000 : Int) < (n0 : Int)) = false := decide_eq_false (by omega)
    have hT1 := ttake_any T (by omega) hg
    have hT2 := fun W => rtake_any (w := W) T (by omega)
    have hrel := take_rel T
    obtain ⟨c, ps, es, n, m, HT1, HT2⟩ : ∃ (c : Cf) (ps : List (List CV)) (es : List En) (n m : Int), Hid (Calls Tryz.prog 8 #[.string s0] w (Take3R w c ps es n m)) ∧ Hid (∀ W, Calls Tryz.prog 9 #[.string s0] W (RTake3R W c ps es n m)) := by
      rw [← hs0]
      cases hx : pTake T with
      | error q =>
        rw [hx] at hT1 hrel
        exact ⟨cf0, nil8P, [], q.1, q.2, hT1.mono fun e w' ⟨a, ev, b, d⟩ => ⟨a, nil8, none, 0, ev, b, nil8_pin _, nil_sl _, d, fun l hl => by
          have : l = [] := by simpa [nil8P] using hl
          subst this
          exact Nat.zero_le _, Nat.zero_le _⟩, fun W => (hT2 W).mono fun e w' h => by
          have h1 := h.1
          have h2 := h.2
          rw [hrel] at h2
          exact ⟨h1, nil8, none, 0, h2, nil8_pin _, nil_sl _⟩⟩
      | ok s =>
        rw [hx] at hT1 hrel
        obtain ⟨r, hr, hc, hps, hes⟩ := hrel
        exact ⟨s.c, s.ps, s.es, 0, 0, hT1.mono fun e w' ⟨a, us, EA, ec, b, d, f, g, h, i⟩ => ⟨a, us, EA, ec, .nilIface, b, d.weak (fun _ h => h.elim), f, .inl ⟨rfl, rfl⟩, h, i⟩, fun W => (hT2 W).mono fun e w' h => by
          have h1 := h.1
          have h2 := h.2
          rw [hr] at h2
          obtain ⟨us, EA, ec, b, d, f, _⟩ := h2
          rw [hc, hes] at b
          rw [hps] at d
          rw [hes] at f
          exact ⟨h1, us, EA, ec, b, d.weak (fun _ h => h.elim), f⟩⟩
    rw [hs0]
    clear hT1 hT2 hg hgv h1 hs0 hn0 hrel
    go_enter Tryz.func3, Tryz.ntmps3
    go_upto_region 3 with (fail)
    have tok1 : True := trivial; have tok2 : True := trivial
    go_upto_region 4 with (first | (have _t := tok1; go_at_call 8; refine HT1.out.mono ?_; rintro e w1 ⟨hb1, us1, EA1, ec1, ev, rfl, P1, S1, hv, h4, h5⟩; have h81 := P1.u8; have hi1 := info_scc (c := c) (us := us1) (ev := .slice EA1 es.length ec1) h81; have hold1 : (#[.int .i64 0, .int .i64 0, .int .i64 0, .int .i64 0, .int .i64 0, .int .i64 0, .int .i64 0, .int .i64 0, .int .i64 0, .int .i64 0, .int .i64 0, .int .i64 0, .int .i64 0, .int .i64 0, .slice none 0 0, .slice none 0 0, .slice none 0 0, .slice none 0 0, .slice none 0 0, .slice none 0 0, .slice none 0 0, .slice none 0 0, .slice none 0 0] : Array Value).size = (scc c us1 (.slice EA1 es.length ec1)).toArray.size := (by show 23 = _; rw [List.size_toArray, scc_len h81]); have hone1 := scc_one (c := c) P1 EA1 es.length ec1; obtain ⟨cs1, hcs1⟩ : ∃ cs, scc c us1 (.slice EA1 es.length ec1) = cs := ⟨_, rfl⟩; rw [hcs1] at hi1 hold1 hone1; rw [hcs1]; have HCS1 := Lib.hid hcs1; clear hcs1; clear tok1 _t) | (have _t := tok2; refine wpList_store_row (o := ⟨none, .store 30 (.tmp 3) (.tmp 16), _, _, _, _⟩) rfl 30 (.tmp 3) (.tmp 16) rfl w1.heap.size _ rfl rfl 30 _ (Blk.new w1 _ _) hi1 hold1 hone1 ?_; clear tok2 _t))
    try simp only [Act.put]
    obtain ⟨q3, hq3⟩ : ∃ q, w1.heap.size = q := ⟨_, rfl⟩
    obtain ⟨W3, hW3, B1, k1⟩ : ∃ W, (w1.alloc (.cells #[.int .i64 0, .int .i64 0, .int .i64 0, .int .i64 0, .int .i64 0, .int .i64 0, .int .i64 0, .int .i64 0, .int .i64 0, .int .i64 0, .int .i64 0, .int .i64 0, .int .i64 0, .int .i64 0, .slice none 0 0, .slice none 0 0, .slice none 0 0, .slice none 0 0, .slice none 0 0, .slice none 0 0, .slice none 0 0, .slice none 0 0, .slice none 0 0] 30)).setRow w1.heap.size cs1.toArray = W ∧ Blk W q3 30 cs1.toArray ∧ Below w1.heap.size w1 W := by
      have kr := keeps_row (w1.alloc (.cells #[.int .i64 0, .int .i64 0, .int .i64 0, .int .i64 0, .int .i64 0, .int .i64 0, .int .i64 0, .int .i64 0, .int .i64 0, .int .i64 0, .int .i64 0, .int .i64 0, .int .i64 0, .int .i64 0, .slice none 0 0, .slice none 0 0, .slice none 0 0, .slice none 0 0, .slice none 0 0, .slice none 0 0, .slice none 0 0, .slice none 0 0, .slice none 0 0] 30)) w1.heap.size cs1.toArray
      exact ⟨_, rfl, by rw [← hq3]; exact (Blk.new w1 _ _).row _, kr.below (bnew (brefl w1) _) (by simp) (fun x e _ => by have e' : x = w1.heap.size := e; omega)⟩
    rw [hW3]
    try rw [hq3]
    have K1 := bnext (brefl w) (bnext hb1 k1)
    clear hW3 hq3
    have hv3 := hv.below k1
    have tok1 : True := trivial; have tok2 : True := trivial
    go_upto_region 5 with (first | (have _t := tok1; go_at_call 9; refine (HT2.out _).mono ?_; rintro e w4 ⟨hb2, us2, EA2, ec2, rfl, P2, S2⟩; have h82 := P2.u8; have hi2 := info_scc (c := c) (us := us2) (ev := .slice EA2 es.length ec2) h82; have hold2 : (#[.int .i64 0, .int .i64 0, .int .i64 0, .int .i64 0, .int .i64 0, .int .i64 0, .int .i64 0, .int .i64 0, .int .i64 0, .int .i64 0, .int .i64 0, .int .i64 0, .int .i64 0, .int .i64 0, .slice none 0 0, .slice none 0 0, .slice none 0 0, .slice none 0 0, .slice none 0 0, .slice none 0 0, .slice none 0 0, .slice none 0 0, .slice none 0 0] : Array Value).size = (scc c us2 (.slice EA2 es.length ec2)).toArray.size := (by show 23 = _; rw [List.size_toArray, scc_len h82]); have hone2 := scc_one (c := c) P2 EA2 es.length ec2; obtain ⟨cs2, hcs2⟩ : ∃ cs, scc c us2 (.slice EA2 es.length ec2) = cs := ⟨_, rfl⟩; rw [hcs2] at hi2 hold2 hone2; rw [hcs2]; have HCS2 := Lib.hid hcs2; clear hcs2; clear tok1 _t) | (have _t := tok2; refine wpList_store_row (o := ⟨none, .store 30 (.tmp 6) (.tmp 22), _, _, _, _⟩) rfl 30 (.tmp 6) (.tmp 22) rfl w4.heap.size _ rfl rfl 30 _ (Blk.new w4 _ _) hi2 hold2 hone2 ?_; clear tok2 _t))
    try simp only [Act.put]
    obtain ⟨q6, hq6⟩ : ∃ q, w4.heap.size = q := ⟨_, rfl⟩
    obtain ⟨W6, hW6, B2, k2⟩ : ∃ W, (w4.alloc (.cells #[.int .i64 0, .int .i64 0, .int .i64 0, .int .i64 0, .int .i64 0, .int .i64 0, .int .i64 0, .int .i64 0, .int .i64 0, .int .i64 0, .int .i64 0, .int .i64 0, .int .i64 0, .int .i64 0, .slice none 0 0, .slice none 0 0, .slice none 0 0, .slice none 0 0, .slice none 0 0, .slice none 0 0, .slice none 0 0, .slice none 0 0, .slice none 0 0] 30)).setRow w4.heap.size cs2.toArray = W ∧ Blk W q6 30 cs2.toArray ∧ Below w4.heap.size w4 W := by
      have kr := keeps_row (w4.alloc (.cells #[.int .i64 0, .int .i64 0, .int .i64 0, .int .i64 0, .int .i64 0, .int .i64 0, .int .i64 0, .int .i64 0, .int .i64 0, .int .i64 0, .int .i64 0, .int .i64 0, .int .i64 0, .int .i64 0, .slice none 0 0, .slice none 0 0, .slice none 0 0, .slice none 0 0, .slice none 0 0, .slice none 0 0, .slice none 0 0, .slice none 0 0, .slice none 0 0] 30)) w4.heap.size cs2.toArray
      exact ⟨_, rfl, by rw [← hq6]; exact (Blk.new w4 _ _).row _, kr.below (bnew (brefl w4) _) (by simp) (fun x e _ => by have e' : x = w4.heap.size := e; omega)⟩
    rw [hW6]
    try rw [hq6]
    have K2 := bnext K1 (bnext hb2 k2)
    clear hW6 hq6
    have k36 := bnext hb2 k2
    have B3 := B1.below_ k36
    have hv6 := hv3.below k36
    have P6 := (P1.below k1).below k36
    have S6 := (S1.below k1).below k36
    have P7 := P2.below k2
    have S7 := S2.below k2
    have HB3 := Lib.hid B3
    have HB6 := Lib.hid B2
    have HCO := Lib.hid (fun W (hW : Below W6.heap.size W6 W) => code_any (hv6.below hW) (HGV.out.below (bnext K2 hW)))
    have HLI := Lib.hid (fun W (hW : Below W6.heap.size W6 W) => lives40 (HG.out.below (bnext K2 hW)))
    have HSM := Lib.hid (fun W (hW : Below W6.heap.size W6 W) => same_any (c := c) (c2 := c) (P6.below hW) (S6.below hW) (P7.below hW) (S7.below hW) h5 h5 (fun l hl => by have := h4 l hl; omega) (fun l hl => by have := h4 l hl; omega))
    rw [HCS1.out, HCS2.out] at HSM
    have HSB : Hid (sameB c c ps ps es es = true) := same_yes rfl rfl rfl
    rw [HSB.out] at HSM
    clear B1 k1 hv hv3 P1 S1 P2 S2 hb1 hb2 k2 k36 B3 B2 P6 S6 P7 S7 K1 HT1 HT2 hold1 hold2 hone1 hone2 h81 h82
    by_cases hm0 : m = 0
    · obtain rfl : ev = .nilIface := hv6.elim (fun q => q.2) (fun q => absurd hm0 q.1)
      subst hm0
      clear hv6
      have tok1 : True := trivial; have tok2 : True := trivial
      go_wp2_with (first | (have _t := tok1; refine wpList_load_row (o := ⟨some 25, _, _, _, _, _⟩) rfl 30 (.tmp 3) rfl q3 rfl 30 _ _ _ HB3.out Tryz.underlying30 rfl hi1 ?_; clear tok1 _t) | (have _t := tok2; refine wpList_load_row (o := ⟨some 26, _, _, _, _, _⟩) rfl 30 (.tmp 6) rfl q6 rfl 30 _ _ _ HB6.out Tryz.underlying30 rfl hi2 ?_; clear tok2 _t) | (go_at_call 10; refine (HSM.out _ (brefl W6)).mono ?_; rintro e w7 ⟨rfl, hb7⟩) | (go_at_call 11; refine (HCO.out _ hb7).mono ?_; rintro e w8 ⟨rfl, hb8⟩) | (go_at_call 7; refine (HLI.out _ (bnext hb7 hb8)).mono ?_; rintro e w9 ⟨rfl, hb9⟩))
      go_ret
      exact ⟨rfl, bnext K2 (bnext hb7 (bnext hb8 hb9))⟩
    · obtain ⟨pp, rfl, _⟩ : ∃ pp : Nat, ev = .iface 153 (.pointer (some ⟨pp, 0, none⟩)) ∧ W6.cell? ⟨pp, 3, none⟩ = some (.iface 35 (.int .i64 m)) := hv6.elim (fun q => absurd q.1 hm0) (fun q => q.2)
      have tm : (m == 0) = false := by simpa using hm0
      clear hv6
      have tok1 : True := trivial; have tok2 : True := trivial
      go_wp2_with (first | (have _t := tok1; refine wpList_load_row (o := ⟨some 25, _, _, _, _, _⟩) rfl 30 (.tmp 3) rfl q3 rfl 30 _ _ _ HB3.out Tryz.underlying30 rfl hi1 ?_; clear tok1 _t) | (have _t := tok2; refine wpList_load_row (o := ⟨some 26, _, _, _, _, _⟩) rfl 30 (.tmp 6) rfl q6 rfl 30 _ _ _ HB6.out Tryz.underlying30 rfl hi2 ?_; clear tok2 _t) | (go_at_call 10; refine (HSM.out _ (brefl W6)).mono ?_; rintro e w7 ⟨rfl, hb7⟩) | (go_at_call 11; refine (HCO.out _ hb7).mono ?_; rintro e w8 ⟨rfl, hb8⟩) | (go_at_call 7; refine (HLI.out _ (bnext hb7 hb8)).mono ?_; rintro e w9 ⟨rfl, hb9⟩))
      go_ret
      exact ⟨rfl, bnext K2 (bnext hb7 (bnext hb8 hb9))⟩
end Go.Proofs.YtjjgngccgjpnaaaGreatDoor
