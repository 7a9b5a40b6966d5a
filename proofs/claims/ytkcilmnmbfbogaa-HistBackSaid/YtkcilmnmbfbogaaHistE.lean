/- Histories: whether they may be: the loop over the iterator. -/
import Derived.Test.YtkcilmnmbfbogaaHistD
namespace Go.Proofs.Ytkcilmnmbfbogaa
set_option linter.unusedVariables false
set_option linter.unusedSimpArgs false
open Go.RowKit

attribute [local go_sem] Oper.semAt_some
set_option maxHeartbeats 4000000 in
set_option maxRecDepth 100000 in
theorem turns_any {w : World} (A : Option Addr) (n c : Nat) : Calls Try.prog 18 #[.slice A n c] w fun e w' => e = .returned (.func (.func 22) #[] #[.pointer (some ⟨w.heap.size, 0, none⟩)]) ∧ w' = w.alloc (.cells #[.slice A n c] 22) := by
  go_enter Try.func18, Try.ntmps18
  go_wp2
  go_ret
  exact ⟨rfl, rfl⟩
/-- Between two rounds; when a round has left; what a round's assignment leaves. -/
structure MayI (w : World) (l : List Ev) (n k : Nat) (W : World) : Prop where
  le : k ≤ n
  ok : okUp l k
  b0 : Blk W w.heap.size 4 #[.bool false]
  b1 : Blk W (w.heap.size + 1) 3 #[.int .i64 (calls (l.take k) : Nat)]
  bel : Below w.heap.size w W
structure MayX (w : World) (l : List Ev) (W : World) : Prop where
  no : mayB l = false
  b0 : Blk W w.heap.size 4 #[.bool false]
  bel : Below w.heap.size w W
def MayA (w : World) (A : Option Addr) (n c : Nat) (l : List Ev) (k : Nat) (a' : Act) (W : World) : Prop := ∃ q e, l[k]? = some e ∧ w.heap.size + 5 ≤ q ∧ Blk W q 45 (evc e).toArray ∧
  a' = { tmps := #[.slice A n c, undef, .pointer (some ⟨w.heap.size, 0, none⟩), .pointer (some ⟨w.heap.size + 1, 0, none⟩), .pointer (some ⟨q, 0, none⟩), .bool (okE (l.take k) e), .slice A n c, .func (.func 22) #[] #[.pointer (some ⟨w.heap.size + 1 + 1, 0, none⟩)], .agg (evc e).toArray, .bool (okE (l.take k) e), undef, undef, undef, undef, undef, undef, undef, undef, undef], defers := [] }
theorem MayI.low {w : World} {l : List Ev} {n k B : Nat} (hB : w.heap.size + 3 ≤ B) : Low B (MayI w l n k) := fun A C ha hb => ⟨ha.le, ha.ok, ha.b0.below hb (by omega), ha.b1.below hb (by omega), ha.bel.trans (hb.mono (by omega))⟩
theorem MayX.low {w : World} {l : List Ev} {B : Nat} (hB : w.heap.size + 3 ≤ B) : Low B (MayX w l) := fun A C ha hb => ⟨ha.no, ha.b0.below hb (by omega), ha.bel.trans (hb.mono (by omega))⟩
theorem MayA.put {w : World} {A : Option Addr} {n c : Nat} {l : List Ev} {k : Nat} {a' : Act} {W : World} {r : Nat} (hr : r < w.heap.size + 5) (o : Obj) (h : MayA w A n c l k a' W) : MayA w A n c l k a' (W.putObj r o) := by
  obtain ⟨q, e, h1, h2, h3, h4⟩ := h
  exact ⟨q, e, h1, h2, (World.putObj_heap_other (by omega)).trans h3, h4⟩
theorem calls_le (l : List Ev) : calls l ≤ l.length := List.length_filter_le _ _
theorem may_yes {l : List Ev} {n k : Nat} (hn : l.length = n) (hok : okUp l k) (he : endsAt l n k) : k = n ∧ mayB l = decide ((calls l : Int) ≤ 40) := by
  rcases he with rfl | ⟨j, e, rfl, hj, hno⟩
  · refine ⟨rfl, ?_⟩
    unfold mayB
    rw [okB_of (by rw [hn]; exact hok), Bool.true_and]
    simp only [decide_eq_decide]
    omega
  · rw [hok j e (by omega) hj] at hno
    cases hno
set_option maxHeartbeats 4000000 in
set_option maxRecDepth 100000 in
theorem may_any {w : World} {A : Option Addr} {n c : Nat} {l : List Ev} (h : Sl evc w A n c l) (hn : n ≤ 100000) : Calls Try.prog 9 #[.slice A n c] w fun r w' => r = .returned (.bool (mayB l)) ∧ Below w.heap.size w w' := by
  have hlen := h.len
  have hbw : 0 < n → ∀ ad, A = some ad → ad.block < w.heap.size := fun h0 => h.rd.lt (by intro e; have := congrArg List.length e; rw [flat_len evc_len] at this; simp at this; omega)
  refine (callsIn_wide (n := 10)).1 ?_
  refine callsIn_of_wp_marks Try.func9 rfl trivial ?_ rfl
  simp only [Try.ntmps9, List.size_toArray, List.length_cons, List.length_nil, Nat.reduceAdd, Nat.reduceSub, Array.replicate_succ, Array.replicate_zero, List.push_toArray, List.append_toArray, List.nil_append, List.cons_append]
  gi_wp2_with (refine ⟨trivial, ?_⟩; gi_at_call 18; refine (callsIn_wide.2 (turns_any _ _ _)).mono ?_; rintro e w' ⟨rfl, rfl⟩)
  obtain ⟨W0, hW0, hz0, i0, h0, bx, kb⟩ : ∃ W0, ((w.alloc (.cells #[.bool false] 4)).alloc (.cells #[.int .i64 0] 3)).alloc (.cells #[.slice A n c] 22) = W0 ∧ W0.heap.size = w.heap.size + 3 ∧ MayI w l n 0 W0 ∧ Sl evc W0 A n c l ∧ Blk W0 (w.heap.size + 1 + 1) 22 #[.slice A n c] ∧ Below w.heap.size w W0 := by
    refine ⟨_, rfl, by simp, ⟨Nat.zero_le _, fun i e hi _ => by omega, ((Blk.new _ _ _).alloc _).alloc _, ?_, bnew (bnew (bnew (brefl w) _) _) _⟩, ((h.alloc _).alloc _).alloc _, ?_, bnew (bnew (bnew (brefl w) _) _) _⟩
    · have := (Blk.new (w.alloc (.cells #[.bool false] 4)) 3 #[.int .i64 0]).alloc (.cells #[.slice A n c] 22)
      simpa [calls] using this
    · have := Blk.new ((w.alloc (.cells #[.bool false] 4)).alloc (.cells #[.int .i64 0] 3)) 22 #[.slice A n c]
      simpa using this
  rw [hW0]
  clear hW0 h
  refine wpIn_rounds rfl (by omega) (gf := 22) (lb := #[.pointer (some ⟨w.heap.size + 1 + 1, 0, none⟩)]) rfl trivial (enters_of Try.func22 (by kernel_rfl) rfl)
    (turns_rounds (Z := fun b => b = w.heap.size ∨ b = w.heap.size + 1) h0 (by omega) bx (by omega) (fun h0 ad hA => by have := hbw h0 ad hA; omega) (by omega) _) (fun k => encE_size l k)
    (MayI w l n) (MayX w l) (fun k => MayI.low (by omega)) (MayX.low (by omega)) i0 (MayA w A n c l) (fun k a' W o => MayA.put (by omega) o) ?assign ?body ?done ?stop
  case assign =>
    rintro L k W K' hsz hi hk hK'
    obtain ⟨e, he⟩ : ∃ e, l[k]? = some e := ⟨l[k]'(by omega), List.getElem?_eq_getElem (i := k) _⟩
    rw [encE_some he]
    simp only [evc]
    gi_wp2
    exact hK' _ _ ((Below.refl _ _).alloc (Nat.le_refl _) _) ⟨_, e, he, by omega, Blk.new _ _ _, rfl⟩
  case body =>
    rintro L k a' W hi hk ⟨q, e, he, hq, hE, rfl⟩
    have hd1 : W.cell? ⟨q, 1, none⟩ = some (.bool e.bk) := hE.cell 1
    have hqz := hE.lt
    have c0 : W.cell? ⟨w.heap.size, 0, none⟩ = some (.bool false) := hi.b0.cell 0
    have f0 := hi.b0.frozen 0
    have c1 : W.cell? ⟨w.heap.size + 1, 0, none⟩ = some (.int .i64 (calls (l.take k) : Nat)) := hi.b1.cell 0
    have f1 := hi.b1.frozen 0
    have z1 := hi.b1.lt
    have HS : Hid (l.take (k + 1) = l.take k ++ [e]) := by rw [Hid, List.take_add_one, he]; rfl
    have hcl : calls (l.take k) ≤ k := Nat.le_trans (calls_le _) (List.length_take_le _ _)
    have HE := Lib.hid he
    have HOK := hi.ok
    have HI := hi
    clear hi he hE
    cases hok : okE (l.take k) e with
    | false =>
      have HNO := okB_no HE.out hok
      clear hok
      gi_wp2
      exact ⟨(KeepsOthers.setCell _ _ _).from _, HNO, HI.b0.set_ 0 _, HI.bel.setCell (p := ⟨w.heap.size, 0, none⟩) (Nat.le_refl _) _⟩
    | true =>
      have HO2 := okUp_snoc HOK HE.out hok
      clear hok
      cases hb : e.bk with
      | true =>
        rw [hb] at hd1
        have HC : Hid (calls (l.take (k + 1)) = calls (l.take k)) := by rw [Hid, HS.out, calls_snoc, hb]; rfl
        clear hb
        gi_wp2
        exact ⟨(KeepsOthers.refl _).from _, Keeps.refl _ _, by omega, HO2, HI.b0, by rw [HC.out]; exact HI.b1, HI.bel⟩
      | false =>
        rw [hb] at hd1
        have HC : Hid (calls (l.take (k + 1)) = calls (l.take k) + 1) := by rw [Hid, HS.out, calls_snoc, hb]; rfl
        clear hb
        gi_wp2
        exact ⟨(KeepsOthers.setCell _ _ _).from _, (Keeps.refl _ _).setCell (p := ⟨w.heap.size + 1, 0, none⟩) (fun _ => .inr rfl) _, by omega, HO2, HI.b0.far (p := ⟨w.heap.size + 1, 0, none⟩) (by dsimp only; omega) _, by rw [HC.out]; exact HI.b1.set_ 0 _, HI.bel.setCell (p := ⟨w.heap.size + 1, 0, none⟩) (by dsimp only; omega) _⟩
  case done =>
    rintro D k W hD he hi hd
    obtain ⟨rfl, hm⟩ := may_yes hlen hi.ok he
    have c0 : W.cell? ⟨w.heap.size, 0, none⟩ = some (.bool false) := hi.b0.cell 0
    have f0 := hi.b0.frozen 0
    have c1 : W.cell? ⟨w.heap.size + 1, 0, none⟩ = some (.int .i64 (calls (l.take k) : Nat)) := hi.b1.cell 0
    have z1 := hi.b1.lt
    rw [List.take_of_length_le (by omega)] at c1
    have HM := Lib.hid hm
    have HB := hi.b0
    have KB := hi.bel
    clear hm he hi hlen i0 h0 bx kb hbw
    gi_wp2
    have hd' := (KeepsOthers.setCell W ⟨w.heap.size, 0, none⟩ (.bool (decide ((calls l : Int) ≤ 40)))).same D _ hd rfl
    refine ⟨by simp, .inl ⟨_, _, rfl, run_takeDeferred hd', ?_⟩⟩
    have hc5 : Blk ((W.setCell ⟨w.heap.size, 0, none⟩ (.bool (decide ((calls l : Int) ≤ 40)))).putObj D (.deferred none)) w.heap.size 4 #[.bool (decide ((calls l : Int) ≤ 40))] := (World.putObj_heap_other (by omega)).trans (HB.set_ 0 (.bool (decide ((calls l : Int) ≤ 40))))
    have hc6 : ((W.setCell ⟨w.heap.size, 0, none⟩ (.bool (decide ((calls l : Int) ≤ 40)))).putObj D (.deferred none)).cell? ⟨w.heap.size, 0, none⟩ = some (.bool (decide ((calls l : Int) ≤ 40))) := hc5.cell 0
    refine ⟨.bool (decide ((calls l : Int) ≤ 40)), ?_, by rw [HM.out], (KB.setCell (p := ⟨w.heap.size, 0, none⟩) (Nat.le_refl _) _).trans (belowK_b (w := w) (Nat.le_refl _) _ D _ _ (by omega) hd' rfl rfl)⟩
    simp [results, Try.f9, go_sem, hc6]
  case stop =>
    rintro D W hD hi hd
    have HX := hi
    have c0 : W.cell? ⟨w.heap.size, 0, none⟩ = some (.bool false) := hi.b0.cell 0
    clear hi hlen i0 h0 bx kb hbw
    gi_wp2
    refine ⟨by simp, .inl ⟨_, _, rfl, run_takeDeferred hd, ?_⟩⟩
    have hc5 : Blk (W.putObj D (.deferred none)) w.heap.size 4 #[.bool false] := (World.putObj_heap_other (by omega)).trans HX.b0
    have hc6 : (W.putObj D (.deferred none)).cell? ⟨w.heap.size, 0, none⟩ = some (.bool false) := hc5.cell 0
    refine ⟨.bool false, ?_, by rw [HX.no], HX.bel.trans (belowK_b (w := w) (Nat.le_refl _) _ D _ _ (by omega) hd rfl rfl)⟩
    simp [results, Try.f9, go_sem, hc6]
end Go.Proofs.Ytkcilmnmbfbogaa
