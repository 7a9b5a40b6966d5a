/- The code of an error: errors.As at an error of fail's make. -/
import Derived.Test.YtknngjdcbldmgaaDoorScrB
import Derived.Test.YtknngjdcbldmgaaDoorPlanT
import Derived.LaidEql
import Derived.Stop.Asserts
import Derived.RowKitTokens
namespace Go.Proofs.YtknngjdcbldmgaaDoor
set_option linter.unusedVariables false
set_option linter.unusedSimpArgs false
open Go.RowKit Go.Extern.Stop Go.Stop Go.Extern

theorem rf_valueOfT (t : Addr) (w : World) : (ReflectliteValue.unpack (.iface 65 (.pointer (some t)))).run Tryd.prog w
    = .ok (.agg #[.pointer (some ⟨1, 65, none⟩), .pointer (some ⟨w.heap.size, 0, none⟩), .int .u64 150]) (w.alloc (.cells #[.pointer (some t)] 65)) := by kernel_rfl
theorem rf_typeT (a : Addr) (w : World) : (ReflectliteValue.methodAny (ReflectliteValue.valueError "reflectlite.Value.Type" 0) (fun t _ _ _ => ReflectliteType.toType t) #[.agg #[.pointer (some ⟨1, 65, none⟩), .pointer (some a), .int .u64 150]]).run Tryd.prog w
    = .ok (.iface 116 (.agg #[.pointer (some ⟨1, 65, none⟩)])) w := by kernel_rfl
theorem rf_kindT (w : World) : ((ReflectliteType.abiMethod fun t => (fun a : Nat => Value.int IntKind.u8 (a : Int)) <$> Rtype.kind t) #[.pointer (some ⟨1, 65, none⟩)]).run Tryd.prog w = .ok (.int .u8 22) w := by kernel_rfl
theorem rf_kindE (w : World) : ((ReflectliteType.abiMethod fun t => (fun a : Nat => Value.int IntKind.u8 (a : Int)) <$> Rtype.kind t) #[.pointer (some ⟨1, 35, none⟩)]).run Tryd.prog w = .ok (.int .u8 2) w := by kernel_rfl
theorem rlm (z : Sem Value) (f : TypeId → Addr → Nat → Nat → Sem Value) (v : Value) :
    ReflectliteValue.method z f #[v] = (do match ← ReflectliteValue.parts v with | none => z | some (t, a, fl) => f t a fl (fl % 32)) := rfl
theorem rf_partsT (a : Addr) (w : World) : (ReflectliteValue.parts (.agg #[.pointer (some ⟨1, 65, none⟩), .pointer (some a), .int .u64 150])).run Tryd.prog w = .ok (some (65, a, 150)) w := by kernel_rfl
theorem rf_isNilT (a p : Addr) (W : World) (ha : W.cell? a = some (.pointer (some p))) :
    (ReflectliteValue.method (ReflectliteValue.valueError "reflectlite.Value.IsNil" 0) ReflectliteValue.isNil #[.agg #[.pointer (some ⟨1, 65, none⟩), .pointer (some a), .int .u64 150]]).run Tryd.prog W = .ok (.bool false) W := by
  rw [rlm]
  simp only [Sem.run_bind, rf_partsT, Result.andThen]
  simp [ReflectliteValue.isNil, loadVar, isAgg, underlying, Tryd.underlying65, ha, Result.andThen]
theorem rf_elemT (w : World) : (ReflectliteType.method ReflectliteType.elem #[.agg #[.pointer (some ⟨1, 65, none⟩)]]).run Tryd.prog w = .ok (.iface 116 (.agg #[.pointer (some ⟨1, 35, none⟩)])) w := by kernel_rfl
theorem rf_implE (w : World) : (ReflectliteType.relation "Implements" ReflectliteType.implements_ #[.agg #[.pointer (some ⟨1, 35, none⟩)], .iface 116 (.agg #[.pointer (some ⟨1, 33, none⟩)])]).run Tryd.prog w = .ok (.bool true) w := by kernel_rfl
theorem rf_typeOfF (v : Value) (w : World) : (ReflectliteType.typeOf #[.iface 89 v]).run Tryd.prog w = .ok (.iface 116 (.agg #[.pointer (some ⟨1, 89, none⟩)])) w := by kernel_rfl
theorem rf_typeOfE (v : Value) (w : World) : (ReflectliteType.typeOf #[.iface 35 v]).run Tryd.prog w = .ok (.iface 116 (.agg #[.pointer (some ⟨1, 35, none⟩)])) w := by kernel_rfl
theorem rf_assignF (w : World) : (ReflectliteType.relation "AssignableTo" ReflectliteType.assignableTo #[.agg #[.pointer (some ⟨1, 89, none⟩)], .iface 116 (.agg #[.pointer (some ⟨1, 35, none⟩)])]).run Tryd.prog w = .ok (.bool false) w := by kernel_rfl
theorem rf_assignE (w : World) : (ReflectliteType.relation "AssignableTo" ReflectliteType.assignableTo #[.agg #[.pointer (some ⟨1, 35, none⟩)], .iface 116 (.agg #[.pointer (some ⟨1, 35, none⟩)])]).run Tryd.prog w = .ok (.bool true) w := by kernel_rfl
theorem rf_valueOfE (n : Int) (w : World) : (ReflectliteValue.unpack (.iface 35 (.int .i64 n))).run Tryd.prog w
    = .ok (.agg #[.pointer (some ⟨1, 35, none⟩), .pointer (some ⟨w.heap.size, 0, none⟩), .int .u64 130]) (w.alloc (.cells #[.int .i64 n] 35)) := by kernel_rfl
theorem rf_elemOfT (w : World) : (Rtype.elem? 65).run Tryd.prog w = .ok (some 35) w := by kernel_rfl
theorem rf_mkE (p : Addr) (w : World) : (ReflectliteValue.mk 35 p ReflectliteValue.flagAddr).run Tryd.prog w = .ok (.agg #[.pointer (some ⟨1, 35, none⟩), .pointer (some p), .int .u64 386]) w := by kernel_rfl
theorem rf_elemVT (a p : Addr) (W : World) (ha : W.cell? a = some (.pointer (some p))) :
    (ReflectliteValue.method (ReflectliteValue.valueError "reflectlite.Value.Elem" 0) ReflectliteValue.elem #[.agg #[.pointer (some ⟨1, 65, none⟩), .pointer (some a), .int .u64 150]]).run Tryd.prog W
      = .ok (.agg #[.pointer (some ⟨1, 35, none⟩), .pointer (some p), .int .u64 386]) W := by
  rw [rlm]
  simp only [Sem.run_bind, rf_partsT, Result.andThen]
  simp [ReflectliteValue.elem, loadVar, isAgg, underlying, Tryd.underlying65, ha, Result.andThen, rf_elemOfT, rf_mkE]
theorem rls (v x : Value) : ReflectliteValue.set #[v, x] = (do
    let (some (dst, a, fl), some (src, b, _)) := (← ReflectliteValue.parts v, ← ReflectliteValue.parts x)
      | unsupported (.noEntry "extern/(internal/reflectlite.Value).Set.zeroValue")
    if fl / ReflectliteValue.flagAddr % 2 == 0 then unsupported (.noEntry "extern/(internal/reflectlite.Value).Set.unaddressable")
    let val ← loadVar src b
    if ← Rtype.directlyAssignable dst src then storeVar dst a val
    else if ← Rtype.implements dst src then
      if (← Rtype.kind src) == 20 then
        match val with
        | .nilIface => unsupported (.noEntry "extern/reflectlite: a nil value of one interface type handed on as a value of another")
        | _ => storeVar dst a val
      else storeVar dst a (.iface src val)
    else panicString ("reflectlite.Set: value of type " ++ (← Rtype.spelt src) ++ " is not assignable to type " ++ (← Rtype.spelt dst))
    pure (.tuple #[])) := rfl
theorem rf_partsEa (a : Addr) (w : World) : (ReflectliteValue.parts (.agg #[.pointer (some ⟨1, 35, none⟩), .pointer (some a), .int .u64 386])).run Tryd.prog w = .ok (some (35, a, 386)) w := by kernel_rfl
theorem rf_partsE (a : Addr) (w : World) : (ReflectliteValue.parts (.agg #[.pointer (some ⟨1, 35, none⟩), .pointer (some a), .int .u64 130])).run Tryd.prog w = .ok (some (35, a, 130)) w := by kernel_rfl
theorem rf_directE (w : World) : (Rtype.directlyAssignable 35 35).run Tryd.prog w = .ok true w := by kernel_rfl
theorem rf_setE (ta b : Addr) (n : Int) (old : Value) (W : World) (hb : W.cell? b = some (.int .i64 n)) (ht : W.cell? ta = some old) (hf : W.frozen? ta = false) :
    (ReflectliteValue.set #[.agg #[.pointer (some ⟨1, 35, none⟩), .pointer (some ta), .int .u64 386], .agg #[.pointer (some ⟨1, 35, none⟩), .pointer (some b), .int .u64 130]]).run Tryd.prog W
      = .ok (.tuple #[]) (W.setCell ta (.int .i64 n)) := by
  rw [rls]
  simp only [Sem.run_bind, rf_partsEa, rf_partsE, Result.andThen]
  simp [ReflectliteValue.flagAddr, loadVar, isAgg, underlying, Tryd.underlying35, hb, Result.andThen, rf_directE, storeVar, Value.cells, storeCells, Addr.add]
  rw [run_store Tryd.prog W ta _ _ (by rfl)]
  simp [ht, hf]
theorem rf_noAs (v : Value) (xT : TypeId) (w : World) : (Instr.typeAssert (.iface 89 v) xT 121 true).run Tryd.prog w = .ok (.tuple #[.nilIface, .bool false]) w := run_typeAssert_lacksB Tryd.underlying121 (by kernel_rfl) (by kernel_rfl) v xT w
theorem rf_hasUn (v : Value) (xT : TypeId) (w : World) : (Instr.typeAssert (.iface 89 v) xT 124 true).run Tryd.prog w = .ok (.tuple #[.iface 89 v, .bool true]) w := run_typeAssert_hasB Tryd.underlying124 (by kernel_rfl) v xT w
theorem rf_mKind (h : Value) (w : World) : (Go.method 261 116 (.agg #[h]) "Kind").run Tryd.prog w = .ok (88, h) w := by kernel_rfl
theorem rf_mElem (h : Value) (w : World) : (Go.method 261 116 (.agg #[h]) "Elem").run Tryd.prog w = .ok (100, .agg #[h]) w := by kernel_rfl
theorem rf_mImpl (h : Value) (w : World) : (Go.method 261 116 (.agg #[h]) "Implements").run Tryd.prog w = .ok (101, .agg #[h]) w := by kernel_rfl
theorem rf_mAssign (h : Value) (w : World) : (Go.method 261 116 (.agg #[h]) "AssignableTo").run Tryd.prog w = .ok (98, .agg #[h]) w := by kernel_rfl
theorem rf_mUnwrap (h : Value) (w : World) : (Go.method 261 89 h "Unwrap").run Tryd.prog w = .ok (93, h) w := by kernel_rfl
set_option maxHeartbeats 4000000 in
set_option maxRecDepth 100000 in
theorem unwrap_any (p : Nat) (n : Int) (w : World) (hc : w.cell? ⟨p, 3, none⟩ = some (.iface 35 (.int .i64 n))) : Calls Tryd.prog 93 #[.pointer (some ⟨p, 0, none⟩)] w fun e w' => e = .returned (.iface 35 (.int .i64 n)) ∧ w = w' := by
  have hz := block_lt_of_cell hc
  go_enter Tryd.func93, Tryd.ntmps93
  go_wp2
  go_ret
  exact ⟨rfl, rfl⟩
set_option maxHeartbeats 4000000 in
set_option maxRecDepth 100000 in
theorem as_code {w : World} {p t : Nat} {n : Int} {old : Value} (hg : w.cell? ⟨0, 0, none⟩ = some (.iface 116 (.agg #[.pointer (some ⟨1, 33, none⟩)]))) (hp : w.cell? ⟨p, 3, none⟩ = some (.iface 35 (.int .i64 n))) (ht0 : w.cell? ⟨t, 0, none⟩ = some old) (hf0 : w.frozen? ⟨t, 0, none⟩ = false) :
    Calls Tryd.prog 27 #[.iface 89 (.pointer (some ⟨p, 0, none⟩)), .iface 65 (.pointer (some ⟨t, 0, none⟩))] w fun e w' => e = .returned (.bool true) ∧ w'.cell? ⟨t, 0, none⟩ = some (.int .i64 n) ∧ Keeps (fun b => b = t) w w' := by
  have h51 := @run_callFunc_extern Tryd.prog 51 _ (fun args => ReflectliteValue.unpack (args.getD 0 (.tuple #[]))) Tryd.func51 (by kernel_rfl) (by kernel_rfl) (by kernel_rfl) (by kernel_rfl)
  have h52 := @run_callFunc_extern Tryd.prog 52 _ (ReflectliteValue.methodAny (ReflectliteValue.valueError "reflectlite.Value.Type" 0) (fun t _ _ _ => ReflectliteType.toType t)) Tryd.func52 (by kernel_rfl) (by kernel_rfl) (by kernel_rfl) (by kernel_rfl)
  have h53 := @run_callFunc_extern Tryd.prog 53 _ (ReflectliteValue.method (ReflectliteValue.valueError "reflectlite.Value.IsNil" 0) ReflectliteValue.isNil) Tryd.func53 (by kernel_rfl) (by kernel_rfl) (by kernel_rfl) (by kernel_rfl)
  have hki := @run_callFunc_extern Tryd.prog 88 _ (ReflectliteType.abiMethod fun t => do pure (.int .u8 (← Rtype.kind t))) Tryd.func88 (by kernel_rfl) (by kernel_rfl) (by kernel_rfl) (by kernel_rfl)
  have hel := @run_callFunc_extern Tryd.prog 100 _ (ReflectliteType.method ReflectliteType.elem) Tryd.func100 (by kernel_rfl) (by kernel_rfl) (by kernel_rfl) (by kernel_rfl)
  have him := @run_callFunc_extern Tryd.prog 101 _ (ReflectliteType.relation "Implements" ReflectliteType.implements_) Tryd.func101 (by kernel_rfl) (by kernel_rfl) (by kernel_rfl) (by kernel_rfl)
  have hto := @run_callFunc_extern Tryd.prog 67 _ ReflectliteType.typeOf Tryd.func67 (by kernel_rfl) (by kernel_rfl) (by kernel_rfl) (by kernel_rfl)
  have hat := @run_callFunc_extern Tryd.prog 98 _ (ReflectliteType.relation "AssignableTo" ReflectliteType.assignableTo) Tryd.func98 (by kernel_rfl) (by kernel_rfl) (by kernel_rfl) (by kernel_rfl)
  have hve := @run_callFunc_extern Tryd.prog 68 _ (ReflectliteValue.method (ReflectliteValue.valueError "reflectlite.Value.Elem" 0) ReflectliteValue.elem) Tryd.func68 (by kernel_rfl) (by kernel_rfl) (by kernel_rfl) (by kernel_rfl)
  have hse := @run_callFunc_extern Tryd.prog 69 _ ReflectliteValue.set Tryd.func69 (by kernel_rfl) (by kernel_rfl) (by kernel_rfl) (by kernel_rfl)
  have q1 := rf_valueOfT ⟨t, 0, none⟩
  have q2 := rf_typeT
  have q3 := rf_kindT
  have q4 := rf_kindE
  have q5 := rf_elemT
  have q6 := rf_implE
  have q7 := rf_typeOfF
  have q8 := rf_typeOfE
  have q9 := rf_assignF
  have q10 := rf_assignE
  have q11 := rf_valueOfE n
  have q12 := rf_noAs
  have q13 := rf_hasUn
  have m1 := rf_mKind
  have m2 := rf_mElem
  have m3 := rf_mImpl
  have m4 := rf_mAssign
  have m5 := rf_mUnwrap
  have hlt : 0 < w.heap.size := block_lt_of_cell hg
  have htl : t < w.heap.size := block_lt_of_cell ht0
  have hpl : p < w.heap.size := block_lt_of_cell hp
  have c2 : ((w.alloc (.cells #[.pointer (some ⟨t, 0, none⟩)] 65)).alloc (.cells #[.pointer (some ⟨1, 65, none⟩), .pointer (some ⟨w.heap.size, 0, none⟩), .int .u64 150] 95)).cell? ⟨w.heap.size, 0, none⟩ = some (.pointer (some ⟨t, 0, none⟩)) := by
    have := ((Blk.new w 65 #[.pointer (some ⟨t, 0, none⟩)]).alloc (.cells #[.pointer (some ⟨1, 65, none⟩), .pointer (some ⟨w.heap.size, 0, none⟩), .int .u64 150] 95)).cell 0
    exact this
  have n8 := rf_isNilT ⟨w.heap.size, 0, none⟩ ⟨t, 0, none⟩ ((w.alloc (.cells #[.pointer (some ⟨t, 0, none⟩)] 65)).alloc (.cells #[.pointer (some ⟨1, 65, none⟩), .pointer (some ⟨w.heap.size, 0, none⟩), .int .u64 150] 95)) c2
  have kb2 : Below w.heap.size w ((w.alloc (.cells #[.pointer (some ⟨t, 0, none⟩)] 65)).alloc (.cells #[.pointer (some ⟨1, 65, none⟩), .pointer (some ⟨w.heap.size, 0, none⟩), .int .u64 150] 95)) := bnew (bnew (brefl w) _) _
  have kb3 := bnew kb2 (.cells #[.pointer (some ⟨1, 65, none⟩), .pointer (some ⟨w.heap.size, 0, none⟩), .int .u64 150] 95)
  have kb4 := bnew kb3 (.cells #[.int .i64 n] 35)
  have hg2 := keep_below hg kb2
  have hp3 := keep_below hp kb3
  have el := rf_elemVT ⟨w.heap.size, 0, none⟩ ⟨t, 0, none⟩ (((w.alloc (.cells #[.pointer (some ⟨t, 0, none⟩)] 65)).alloc (.cells #[.pointer (some ⟨1, 65, none⟩), .pointer (some ⟨w.heap.size, 0, none⟩), .int .u64 150] 95)).alloc (.cells #[.pointer (some ⟨1, 65, none⟩), .pointer (some ⟨w.heap.size, 0, none⟩), .int .u64 150] 95)) ((((Blk.new w 65 #[.pointer (some ⟨t, 0, none⟩)]).alloc (.cells #[.pointer (some ⟨1, 65, none⟩), .pointer (some ⟨w.heap.size, 0, none⟩), .int .u64 150] 95)).alloc (.cells #[.pointer (some ⟨1, 65, none⟩), .pointer (some ⟨w.heap.size, 0, none⟩), .int .u64 150] 95)).cell 0)
  have st := rf_setE ⟨t, 0, none⟩ ⟨w.heap.size + 1 + 1 + 1, 0, none⟩ n old ((((w.alloc (.cells #[.pointer (some ⟨t, 0, none⟩)] 65)).alloc (.cells #[.pointer (some ⟨1, 65, none⟩), .pointer (some ⟨w.heap.size, 0, none⟩), .int .u64 150] 95)).alloc (.cells #[.pointer (some ⟨1, 65, none⟩), .pointer (some ⟨w.heap.size, 0, none⟩), .int .u64 150] 95)).alloc (.cells #[.int .i64 n] 35)) (by
      have := (Blk.new (((w.alloc (.cells #[.pointer (some ⟨t, 0, none⟩)] 65)).alloc (.cells #[.pointer (some ⟨1, 65, none⟩), .pointer (some ⟨w.heap.size, 0, none⟩), .int .u64 150] 95)).alloc (.cells #[.pointer (some ⟨1, 65, none⟩), .pointer (some ⟨w.heap.size, 0, none⟩), .int .u64 150] 95)) 35 #[.int .i64 n]).cell 0
      simpa using this) (keep_below ht0 kb4) (keep_frozen hf0 htl kb4)
  have hb4 := keep_below ht0 kb4
  have KT : Keeps (fun b => b = t) w (((((w.alloc (.cells #[.pointer (some ⟨t, 0, none⟩)] 65)).alloc (.cells #[.pointer (some ⟨1, 65, none⟩), .pointer (some ⟨w.heap.size, 0, none⟩), .int .u64 150] 95)).alloc (.cells #[.pointer (some ⟨1, 65, none⟩), .pointer (some ⟨w.heap.size, 0, none⟩), .int .u64 150] 95)).alloc (.cells #[.int .i64 n] 35)).setCell ⟨t, 0, none⟩ (.int .i64 n)) := keepq_set (Keeps.of_below kb4)
  have CT : (((((w.alloc (.cells #[.pointer (some ⟨t, 0, none⟩)] 65)).alloc (.cells #[.pointer (some ⟨1, 65, none⟩), .pointer (some ⟨w.heap.size, 0, none⟩), .int .u64 150] 95)).alloc (.cells #[.pointer (some ⟨1, 65, none⟩), .pointer (some ⟨w.heap.size, 0, none⟩), .int .u64 150] 95)).alloc (.cells #[.int .i64 n] 35)).setCell ⟨t, 0, none⟩ (.int .i64 n)).cell? ⟨t, 0, none⟩ = some (.int .i64 n) := World.cell?_setCell_same' _ _ _ (by rw [hb4]; rfl)
  have KT := Lib.hid KT
  have CT := Lib.hid CT
  clear kb2 kb3 kb4 hb4 c2 hg hp ht0 hf0
  go_enter Tryd.func27, Tryd.ntmps27
  go_wp2_with go_in
  refine wp_loop_rounds 2 ?_
  rw [rounds_succ]
  go_wp2_with (first | (go_at_call 93; refine (unwrap_any p n _ hp3).mono ?_; rintro e w1 ⟨rfl, rfl⟩) | go_in)
  rw [rounds_succ]
  go_wp2_with go_in
  go_ret
  exact ⟨rfl, CT.out, KT.out⟩

/-- What errors.As leans on: the package's variable. -/
def GV (w : World) : Prop := w.cell? ⟨0, 0, none⟩ = some (.iface 116 (.agg #[.pointer (some ⟨1, 33, none⟩)]))
theorem GV.below {w w' : World} (h : GV w) (hb : Below w.heap.size w w') : GV w' := keep_below h hb
/-- An error of fail's make, of a code; none, where the code is 0. -/
def ErrAt (w : World) (v : Value) (n : Int) : Prop := (n = 0 ∧ v = .nilIface) ∨ (n ≠ 0 ∧ ∃ p : Nat, v = .iface 89 (.pointer (some ⟨p, 0, none⟩)) ∧ w.cell? ⟨p, 3, none⟩ = some (.iface 35 (.int .i64 n)))
theorem ErrAt.below {w w' : World} {v : Value} {n : Int} (h : ErrAt w v n) (hb : Below w.heap.size w w') : ErrAt w' v n := h.imp id fun ⟨h1, p, h2, h3⟩ => ⟨h1, p, h2, keep_below h3 hb⟩
def NewR (w : World) (n : Int) (e : Ending) (w' : World) : Prop := ∃ v, e = .returned v ∧ ErrAt w' v n ∧ Below w.heap.size w w'
set_option maxHeartbeats 4000000 in
set_option maxRecDepth 100000 in
theorem new_any (th lv n : Int) (what : ByteArray) (w : World) : Calls Tryd.prog 23 #[.int .i64 th, .int .i64 lv, .string what, .int .i64 n] w (NewR w n) := by
  by_cases h : n = 0
  · subst h
    go_enter Tryd.func23, Tryd.ntmps23
    go_wp2
    go_ret
    exact ⟨_, rfl, .inl ⟨rfl, rfl⟩, brefl w⟩
  · have t1 : (n == 0) = false := by simpa using h
    have HN := Lib.hid h
    have HB := Blk.new w 91 #[.int .i64 th, .int .i64 lv, .string what, .iface 35 (.int .i64 n)]
    have HC := Lib.hid (HB.cell 3)
    clear h HB
    go_enter Tryd.func23, Tryd.ntmps23
    go_wp2
    go_ret
    exact ⟨_, rfl, .inr ⟨HN.out, w.heap.size, rfl, HC.out⟩, bnew (brefl w) _⟩
def CodeR (w : World) (n : Int) (e : Ending) (w' : World) : Prop := e = .returned (.int .i64 n) ∧ Below w.heap.size w w'
set_option maxHeartbeats 4000000 in
set_option maxRecDepth 100000 in
theorem code_any {w : World} {v : Value} {n : Int} (h : ErrAt w v n) (hg : GV w) : Calls Tryd.prog 11 #[v] w (CodeR w n) := by
  rcases h with ⟨rfl, rfl⟩ | ⟨hn, p, rfl, hp⟩
  · go_enter Tryd.func11, Tryd.ntmps11
    go_wp2
    go_ret
    exact ⟨rfl, bnew (brefl w) _⟩
  · have B := Blk.new w 35 #[.int .i64 0]
    have kb := bnew (brefl w) (.cells #[.int .i64 0] 35)
    have hA := as_code (hg.below kb) (keep_below hp kb) (B.cell 0) (B.frozen 0)
    have HA := Lib.hid hA
    clear hA B hp hg hn
    go_enter Tryd.func11, Tryd.ntmps11
    go_wp2_with (go_at_call 27; refine HA.out.mono ?_; rintro e w1 ⟨rfl, hc1, hk1⟩; have hz1 := block_lt_of_cell hc1)
    go_ret
    exact ⟨rfl, hk1.below kb (by simp) (fun x hx _ => by omega)⟩
end Go.Proofs.YtknngjdcbldmgaaDoor
