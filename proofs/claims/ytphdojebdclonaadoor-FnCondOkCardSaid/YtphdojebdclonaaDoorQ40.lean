/- Joined texts. No condition. -/
import Derived.Test.YtphdojebdclonaaDoorProg
import Derived.WalkKit
import Derived.LaidEql
import Derived.Stop.Asserts
import Derived.RowKitTokens
/- Walks: errors.As at a target of the program's own error type: nothing for nil, a hit for that type. No condition. -/
namespace Go.Proofs.YtphdojebdclonaaDoor
set_option linter.unusedSimpArgs false
set_option linter.unusedVariables false
open Go.RowKit Go.Extern.Stop Go.Stop Go.Extern

theorem as_nil (t : Value) (w : World) : Calls Tryd.prog 45 #[.nilIface, t] w fun e w' => e = .returned (.bool false) ∧ w' = w := by
  go_enter Tryd.func45, Tryd.ntmps45
  go_wp2
  go_ret
  exact ⟨rfl, rfl⟩

theorem eP.valueOf (t : Addr) (w : World) : (ReflectliteValue.unpack (.iface 67 (.pointer (some t)))).run Tryd.prog w
    = .ok (.agg #[.pointer (some ⟨7, 67, none⟩), .pointer (some ⟨w.heap.size, 0, none⟩), .int .u64 150]) (w.alloc (.cells #[.pointer (some t)] 67)) := by kernel_rfl
theorem eP.type (a : Addr) (w : World) : (ReflectliteValue.methodAny (ReflectliteValue.valueError "reflectlite.Value.Type" 0) (fun t _ _ _ => ReflectliteType.toType t) #[.agg #[.pointer (some ⟨7, 67, none⟩), .pointer (some a), .int .u64 150]]).run Tryd.prog w
    = .ok (.iface 168 (.agg #[.pointer (some ⟨7, 67, none⟩)])) w := by kernel_rfl
theorem eM.kind (h : Value) (w : World) : (Go.method (Tryd.prog.types.size + Made.depth) 168 (.agg #[h]) "Kind").run Tryd.prog w = .ok (197, h) w := by kernel_rfl
theorem eP.kind (w : World) : ((ReflectliteType.abiMethod fun t => (fun a : Nat => Value.int IntKind.u8 (a : Int)) <$> Rtype.kind t) #[.pointer (some ⟨7, 67, none⟩)]).run Tryd.prog w = .ok (.int .u8 22) w := by kernel_rfl
theorem eS.kind (w : World) : ((ReflectliteType.abiMethod fun t => (fun a : Nat => Value.int IntKind.u8 (a : Int)) <$> Rtype.kind t) #[.pointer (some ⟨7, 62, none⟩)]).run Tryd.prog w = .ok (.int .u8 25) w := by kernel_rfl

theorem erlm (z : Sem Value) (f : TypeId → Addr → Nat → Nat → Sem Value) (v : Value) :
    ReflectliteValue.method z f #[v] = (do match ← ReflectliteValue.parts v with | none => z | some (t, a, fl) => f t a fl (fl % 32)) := rfl
theorem eP.parts (a : Addr) (w : World) : (ReflectliteValue.parts (.agg #[.pointer (some ⟨7, 67, none⟩), .pointer (some a), .int .u64 150])).run Tryd.prog w = .ok (some (67, a, 150)) w := by kernel_rfl
theorem eP.isNil (a p : Addr) (W : World) (ha : W.cell? a = some (.pointer (some p))) :
    (ReflectliteValue.method (ReflectliteValue.valueError "reflectlite.Value.IsNil" 0) ReflectliteValue.isNil #[.agg #[.pointer (some ⟨7, 67, none⟩), .pointer (some a), .int .u64 150]]).run Tryd.prog W = .ok (.bool false) W := by
  rw [erlm]
  simp only [Sem.run_bind, eP.parts, Result.andThen]
  simp [ReflectliteValue.isNil, loadVar, isAgg, underlying, Tryd.underlying67, ha, Result.andThen]

theorem eM.elem (h : Value) (w : World) : (Go.method (Tryd.prog.types.size + Made.depth) 168 (.agg #[h]) "Elem").run Tryd.prog w = .ok (211, .agg #[h]) w := by kernel_rfl
theorem eM.implements (h : Value) (w : World) : (Go.method (Tryd.prog.types.size + Made.depth) 168 (.agg #[h]) "Implements").run Tryd.prog w = .ok (212, .agg #[h]) w := by kernel_rfl
theorem eM.assignableTo (h : Value) (w : World) : (Go.method (Tryd.prog.types.size + Made.depth) 168 (.agg #[h]) "AssignableTo").run Tryd.prog w = .ok (209, .agg #[h]) w := by kernel_rfl
theorem eP.elem (w : World) : (ReflectliteType.method ReflectliteType.elem #[.agg #[.pointer (some ⟨7, 67, none⟩)]]).run Tryd.prog w = .ok (.iface 168 (.agg #[.pointer (some ⟨7, 62, none⟩)])) w := by kernel_rfl
theorem eS.implements (w : World) : (ReflectliteType.relation "Implements" ReflectliteType.implements_ #[.agg #[.pointer (some ⟨7, 62, none⟩)], .iface 168 (.agg #[.pointer (some ⟨7, 65, none⟩)])]).run Tryd.prog w = .ok (.bool true) w := by kernel_rfl
theorem eS.typeOf (v : Value) (w : World) : (ReflectliteType.typeOf #[.iface 62 v]).run Tryd.prog w = .ok (.iface 168 (.agg #[.pointer (some ⟨7, 62, none⟩)])) w := by kernel_rfl
theorem eS.assignable (w : World) : (ReflectliteType.relation "AssignableTo" ReflectliteType.assignableTo #[.agg #[.pointer (some ⟨7, 62, none⟩)], .iface 168 (.agg #[.pointer (some ⟨7, 62, none⟩)])]).run Tryd.prog w = .ok (.bool true) w := by kernel_rfl
theorem eS.valueOf (x y : Int) (w : World) : (ReflectliteValue.unpack (.iface 62 (.agg #[.int .i64 x, .int .i64 y]))).run Tryd.prog w
    = .ok (.agg #[.pointer (some ⟨7, 62, none⟩), .pointer (some ⟨w.heap.size, 0, none⟩), .int .u64 153]) (w.alloc (.cells #[.int .i64 x, .int .i64 y] 62)) := by kernel_rfl

theorem eP.elemOf (w : World) : (Rtype.elem? 67).run Tryd.prog w = .ok (some 62) w := by kernel_rfl
theorem eS.mk (p : Addr) (w : World) : (ReflectliteValue.mk 62 p ReflectliteValue.flagAddr).run Tryd.prog w = .ok (.agg #[.pointer (some ⟨7, 62, none⟩), .pointer (some p), .int .u64 409]) w := by kernel_rfl
theorem eP.elemV (a p : Addr) (W : World) (ha : W.cell? a = some (.pointer (some p))) :
    (ReflectliteValue.method (ReflectliteValue.valueError "reflectlite.Value.Elem" 0) ReflectliteValue.elem #[.agg #[.pointer (some ⟨7, 67, none⟩), .pointer (some a), .int .u64 150]]).run Tryd.prog W
      = .ok (.agg #[.pointer (some ⟨7, 62, none⟩), .pointer (some p), .int .u64 409]) W := by
  rw [erlm]
  simp only [Sem.run_bind, eP.parts, Result.andThen]
  simp [ReflectliteValue.elem, loadVar, isAgg, underlying, Tryd.underlying67, ha, Result.andThen, eP.elemOf, eS.mk]
theorem erls (v x : Value) : ReflectliteValue.set #[v, x] = (do
    let (some (dst, a, fl), some (src, b, _)) := (← ReflectliteValue.parts v, ← ReflectliteValue.parts x)
      | unsupported (.noEntry "extern/(internal/reflectlite.Value).Set.zeroValue")
    if fl / ReflectliteValue.flagAddr % 2 == 0 then unsupported (.noEntry "extern/(internal/reflectlite.Value).Set.unaddressable")
    let val ← loadVar src b
    if ← Rtype.directlyAssignable dst src then storeVar dst a val
    else if ← Rtype.implements dst src then
      if (← Rtype.kind src) == 20 then
        match val with
        | .nilIface => unsupported (.noEntry "extern/reflectlite: a nil value of one interface type handed on as a value of another")
        | _ => storeVar dst a val
      else storeVar dst a (.iface src val)
    else panicString ("reflectlite.Set: value of type " ++ (← Rtype.spelt src) ++ " is not assignable to type " ++ (← Rtype.spelt dst))
    pure (.tuple #[])) := rfl
theorem eS.partsA (a : Addr) (w : World) : (ReflectliteValue.parts (.agg #[.pointer (some ⟨7, 62, none⟩), .pointer (some a), .int .u64 409])).run Tryd.prog w = .ok (some (62, a, 409)) w := by kernel_rfl
theorem eS.parts (a : Addr) (w : World) : (ReflectliteValue.parts (.agg #[.pointer (some ⟨7, 62, none⟩), .pointer (some a), .int .u64 153])).run Tryd.prog w = .ok (some (62, a, 153)) w := by kernel_rfl
theorem eS.direct (w : World) : (Rtype.directlyAssignable 62 62).run Tryd.prog w = .ok true w := by kernel_rfl
theorem eS.size (w : World) : (sizeOf 62).run Tryd.prog w = .ok 2 w := by kernel_rfl
theorem eS.load (b : Nat) (x y : Int) (W : World) (h0 : W.cell? ⟨b, 0, none⟩ = some (.int .i64 x)) (h1 : W.cell? ⟨b, 1, none⟩ = some (.int .i64 y)) :
    (loadVar 62 ⟨b, 0, none⟩).run Tryd.prog W = .ok (.agg #[.int .i64 x, .int .i64 y]) W := by
  simp [loadVar, isAgg, underlying, Tryd.underlying62, loadCells, loadCellsFrom, Addr.add, h0, h1, Result.andThen]
theorem eS.store (tb : Nat) (x y : Int) (o0 o1 : Value) (W : World) (h0 : W.cell? ⟨tb, 0, none⟩ = some o0) (h1 : W.cell? ⟨tb, 1, none⟩ = some o1) (f0 : W.frozen? ⟨tb, 0, none⟩ = false) (f1 : W.frozen? ⟨tb, 1, none⟩ = false) :
    (storeVar 62 ⟨tb, 0, none⟩ (.agg #[.int .i64 x, .int .i64 y])).run Tryd.prog W = .ok () ((W.setCell ⟨tb, 0, none⟩ (.int .i64 x)).setCell ⟨tb, 1, none⟩ (.int .i64 y)) := by
  have h2 : (W.setCell ⟨tb, 0, none⟩ (.int .i64 x)).cell? ⟨tb, 1, none⟩ = some o1 := (World.cell?_setCell_other _ _ _ _ (by intro e; injection e with _ e2 _; cases e2)).trans h1
  simp [storeVar, Value.cells, storeCells, Addr.add, Result.andThen]
  rw [run_store Tryd.prog W ⟨tb, 0, none⟩ _ _ (by rfl)]
  simp [h0, f0]
  rw [run_store Tryd.prog (W.setCell ⟨tb, 0, none⟩ _) ⟨tb, 1, none⟩ _ _ (by rfl)]
  simp [h2, f1]
theorem eS.set (tb b : Nat) (x y : Int) (o0 o1 : Value) (W : World) (hb0 : W.cell? ⟨b, 0, none⟩ = some (.int .i64 x)) (hb1 : W.cell? ⟨b, 1, none⟩ = some (.int .i64 y))
    (h0 : W.cell? ⟨tb, 0, none⟩ = some o0) (h1 : W.cell? ⟨tb, 1, none⟩ = some o1) (f0 : W.frozen? ⟨tb, 0, none⟩ = false) (f1 : W.frozen? ⟨tb, 1, none⟩ = false) :
    (ReflectliteValue.set #[.agg #[.pointer (some ⟨7, 62, none⟩), .pointer (some ⟨tb, 0, none⟩), .int .u64 409], .agg #[.pointer (some ⟨7, 62, none⟩), .pointer (some ⟨b, 0, none⟩), .int .u64 153]]).run Tryd.prog W
      = .ok (.tuple #[]) ((W.setCell ⟨tb, 0, none⟩ (.int .i64 x)).setCell ⟨tb, 1, none⟩ (.int .i64 y)) := by
  rw [erls]
  simp only [Sem.run_bind, eS.partsA, eS.parts, Result.andThen]
  simp [ReflectliteValue.flagAddr, eS.load b x y W hb0 hb1, eS.direct, eS.store tb x y o0 o1 W h0 h1 f0 f1, Result.andThen]

/-- the world behind a hit: four new blocks, and the target holds the error -/
def asWorld (w : World) (tb : Nat) (x y : Int) : World :=
  (((((w.alloc (.cells #[.pointer (some ⟨tb, 0, none⟩)] 67)).alloc (.cells #[.pointer (some ⟨7, 67, none⟩), .pointer (some ⟨w.heap.size, 0, none⟩), .int .u64 150] 129)).alloc (.cells #[.pointer (some ⟨7, 67, none⟩), .pointer (some ⟨w.heap.size, 0, none⟩), .int .u64 150] 129)).alloc (.cells #[.int .i64 x, .int .i64 y] 62)).setCell ⟨tb, 0, none⟩ (.int .i64 x)).setCell ⟨tb, 1, none⟩ (.int .i64 y)

set_option maxHeartbeats 4000000 in
theorem as_hit (x y : Int) (tb : Nat) (o0 o1 : Value) (w : World) (hg : w.cell? ⟨0, 0, none⟩ = some (.iface 168 (.agg #[.pointer (some ⟨7, 65, none⟩)])))
    (h0 : w.cell? ⟨tb, 0, none⟩ = some o0) (h1 : w.cell? ⟨tb, 1, none⟩ = some o1) (f0 : w.frozen? ⟨tb, 0, none⟩ = false) (f1 : w.frozen? ⟨tb, 1, none⟩ = false) :
    Calls Tryd.prog 45 #[.iface 62 (.agg #[.int .i64 x, .int .i64 y]), .iface 67 (.pointer (some ⟨tb, 0, none⟩))] w fun ev w' => ev = .returned (.bool true) ∧ w' = asWorld w tb x y := by
  have h6 := @run_callFunc_extern Tryd.prog 103 _ (fun args => ReflectliteValue.unpack (args.getD 0 (.tuple #[]))) Tryd.func103 (by kernel_rfl) (by kernel_rfl) (by kernel_rfl) (by kernel_rfl)
  have h7 := @run_callFunc_extern Tryd.prog 104 _ (ReflectliteValue.methodAny (ReflectliteValue.valueError "reflectlite.Value.Type" 0) (fun t _ _ _ => ReflectliteType.toType t)) Tryd.func104 (by kernel_rfl) (by kernel_rfl) (by kernel_rfl) (by kernel_rfl)
  have h8 := @run_callFunc_extern Tryd.prog 105 _ (ReflectliteValue.method (ReflectliteValue.valueError "reflectlite.Value.IsNil" 0) ReflectliteValue.isNil) Tryd.func105 (by kernel_rfl) (by kernel_rfl) (by kernel_rfl) (by kernel_rfl)
  have h27 := @run_callFunc_extern Tryd.prog 197 _ (ReflectliteType.abiMethod fun t => do pure (.int .u8 (← Rtype.kind t))) Tryd.func197 (by kernel_rfl) (by kernel_rfl) (by kernel_rfl) (by kernel_rfl)
  have h37 := @run_callFunc_extern Tryd.prog 211 _ (ReflectliteType.method ReflectliteType.elem) Tryd.func211 (by kernel_rfl) (by kernel_rfl) (by kernel_rfl) (by kernel_rfl)
  have h38 := @run_callFunc_extern Tryd.prog 212 _ (ReflectliteType.relation "Implements" ReflectliteType.implements_) Tryd.func212 (by kernel_rfl) (by kernel_rfl) (by kernel_rfl) (by kernel_rfl)
  have h10 := @run_callFunc_extern Tryd.prog 141 _ ReflectliteType.typeOf Tryd.func141 (by kernel_rfl) (by kernel_rfl) (by kernel_rfl) (by kernel_rfl)
  have h35 := @run_callFunc_extern Tryd.prog 209 _ (ReflectliteType.relation "AssignableTo" ReflectliteType.assignableTo) Tryd.func209 (by kernel_rfl) (by kernel_rfl) (by kernel_rfl) (by kernel_rfl)
  have h11 := @run_callFunc_extern Tryd.prog 142 _ (ReflectliteValue.method (ReflectliteValue.valueError "reflectlite.Value.Elem" 0) ReflectliteValue.elem) Tryd.func142 (by kernel_rfl) (by kernel_rfl) (by kernel_rfl) (by kernel_rfl)
  have h12 := @run_callFunc_extern Tryd.prog 143 _ ReflectliteValue.set Tryd.func143 (by kernel_rfl) (by kernel_rfl) (by kernel_rfl) (by kernel_rfl)
  have tO := eS.typeOf
  have mA := eM.assignableTo
  have a25 := eS.assignable
  have v25 := eS.valueOf
  have f6 := eP.valueOf
  have f7 := eP.type
  have mK := eM.kind
  have mE := eM.elem
  have mI := eM.implements
  have k27 := eP.kind
  have k25 := eS.kind
  have e27 := eP.elem
  have i25 := eS.implements
  have hsz : Tryd.prog.types.size + Made.depth = 343 := by kernel_rfl
  rw [hsz] at mA mK mE mI
  have n8 := eP.isNil ⟨w.heap.size, 0, none⟩ ⟨tb, 0, none⟩ ((w.alloc (.cells #[.pointer (some ⟨tb, 0, none⟩)] 67)).alloc (.cells #[.pointer (some ⟨7, 67, none⟩), .pointer (some ⟨w.heap.size, 0, none⟩), .int .u64 150] 129)) (by simp)
  have hlt : 0 < w.heap.size := by
    rcases Nat.eq_zero_or_pos w.heap.size with h0 | h
    · simp [World.cell?, h0] at hg
    · exact h
  have hg2 : ((w.alloc (.cells #[.pointer (some ⟨tb, 0, none⟩)] 67)).alloc (.cells #[.pointer (some ⟨7, 67, none⟩), .pointer (some ⟨w.heap.size, 0, none⟩), .int .u64 150] 129)).cell? ⟨0, 0, none⟩ = some (.iface 168 (.agg #[.pointer (some ⟨7, 65, none⟩)])) := by
    rw [World.cell?_alloc_lt _ _ ⟨0, 0, none⟩ (by simp), World.cell?_alloc_lt _ _ ⟨0, 0, none⟩ hlt]; exact hg
  have htl : tb < w.heap.size := by
    rcases Nat.lt_or_ge tb w.heap.size with h | h
    · exact h
    · simp [World.cell?, Array.getElem?_eq_none h] at h0
  have el := eP.elemV ⟨w.heap.size, 0, none⟩ ⟨tb, 0, none⟩ (((w.alloc (.cells #[.pointer (some ⟨tb, 0, none⟩)] 67)).alloc (.cells #[.pointer (some ⟨7, 67, none⟩), .pointer (some ⟨w.heap.size, 0, none⟩), .int .u64 150] 129)).alloc (.cells #[.pointer (some ⟨7, 67, none⟩), .pointer (some ⟨w.heap.size, 0, none⟩), .int .u64 150] 129)) (by rw [World.cell?_alloc_lt _ _ ⟨w.heap.size, 0, none⟩ (by simp; omega)]; simp)
  have st := eS.set tb (w.heap.size + 1 + 1 + 1) x y o0 o1 ((((w.alloc (.cells #[.pointer (some ⟨tb, 0, none⟩)] 67)).alloc (.cells #[.pointer (some ⟨7, 67, none⟩), .pointer (some ⟨w.heap.size, 0, none⟩), .int .u64 150] 129)).alloc (.cells #[.pointer (some ⟨7, 67, none⟩), .pointer (some ⟨w.heap.size, 0, none⟩), .int .u64 150] 129)).alloc (.cells #[.int .i64 x, .int .i64 y] 62))
    (by rw [World.cell?_alloc_at _ _ _ _ (by simp)]; rfl) (by rw [World.cell?_alloc_at _ _ _ _ (by simp)]; rfl)
    (by rw [World.cell?_alloc_lt _ _ _ (by simp; omega), World.cell?_alloc_lt _ _ _ (by simp; omega), World.cell?_alloc_lt _ _ _ (by simp; omega), World.cell?_alloc_lt _ _ _ htl]; exact h0)
    (by rw [World.cell?_alloc_lt _ _ _ (by simp; omega), World.cell?_alloc_lt _ _ _ (by simp; omega), World.cell?_alloc_lt _ _ _ (by simp; omega), World.cell?_alloc_lt _ _ _ htl]; exact h1)
    (by rw [World.frozen?_alloc_old _ _ _ (by simp; omega), World.frozen?_alloc_old _ _ _ (by simp; omega), World.frozen?_alloc_old _ _ _ (by simp; omega), World.frozen?_alloc_old _ _ _ (Nat.ne_of_lt htl)]; exact f0)
    (by rw [World.frozen?_alloc_old _ _ _ (by simp; omega), World.frozen?_alloc_old _ _ _ (by simp; omega), World.frozen?_alloc_old _ _ _ (by simp; omega), World.frozen?_alloc_old _ _ _ (Nat.ne_of_lt htl)]; exact f1)
  go_enter Tryd.func45, Tryd.ntmps45
  go_wp2
  refine wp_loop_rounds 1 ?_
  rw [rounds_succ]
  go_wp2
  go_ret
  exact ⟨rfl, rfl⟩

end Go.Proofs.YtphdojebdclonaaDoor
