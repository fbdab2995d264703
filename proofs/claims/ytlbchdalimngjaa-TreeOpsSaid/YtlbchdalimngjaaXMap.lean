/- Proved here: what a map with keys of one byte does when it is stored into and asked, entry by entry (no condition beyond the map's own entries being known). -/
import Derived.Test.YtlbchdalimngjaaPx0
namespace Go.Proofs.Ytlbchdalimngjaa.P
open Go.RowKit Go.Proofs.YtlbchdalimngjaaW.PrintWords Go.Proofs.YtlbchdalimngjaaW.PrintLast Go.Proofs.YtlbchdalimngjaaW.PrintMore
open Go.Instr
set_option linter.unusedVariables false
set_option linter.unusedSimpArgs false

def setObj_ (w : World) (b : Nat) (o : Obj) : World := { w with heap := w.heap.setIfInBounds b o }
theorem setObj_same {w : World} {b : Nat} {o o' : Obj} (h : w.heap[b]? = some o') : (setObj_ w b o).heap[b]? = some o := by
  have hlt := (Array.getElem?_eq_some_iff.1 h).1
  simp [setObj_, hlt]
theorem setObj_grown {w : World} {b : Nat} {o : Obj} : w.grownBy (setObj_ w b o) (some b) :=
  ⟨rfl, rfl, rfl, by simp [setObj_], fun i _ hi => by
    have : b ≠ i := fun e => hi (by rw [e])
    simp [setObj_, Array.getElem?_setIfInBounds, this]⟩

section
variable {P : Program} {w : World} {t k e : TypeId} {b clock : Nat} {es : Array MapEntry} {n : Int}
theorem run_checkKey_u8 (hk : P.underlying k = some (.int .u8)) (c : Bool) (m : Nat) : (checkKey c (m + 1) k (.int .u8 n)).run P w = .ok () w := by
  simp [checkKey, run_underlying hk]
theorem run_findKey_u8 (hk : P.underlying k = some (.int .u8)) {l : List MapEntry} {r : Option (Nat × Value)} (hf : findNow (.int .u8) (.int .u8 n) l 0 = some r) : (findKey k (.int .u8 n) l).run P w = .ok r w := by
  simp [findKey, run_underlying hk, hf]
theorem run_mapUpdate_new (ht : P.underlying t = some (.map k e)) (hk : P.underlying k = some (.int .u8)) (hb : w.heap[b]? = some (.map es clock)) (v : Value)
    (hf : findNow (.int .u8) (.int .u8 n) es.toList 0 = some none) :
    (mapUpdate t (.map (some b)) (.int .u8 n) v).run P w = .ok () (setObj_ w b (.map (es.push ⟨.int .u8 n, v, clock⟩) (clock + 1))) := by
  have h1 := run_checkKey_u8 (P := P) (w := w) (n := n) hk false 9999
  have h2 := run_findKey_u8 (P := P) (w := w) hk hf
  simp [mapUpdate, run_underlying ht, getObj, setObj, hb, h1, h2, setObj_, Sem.run]
theorem run_lookup_has (ht : P.underlying t = some (.map k e)) (hk : P.underlying k = some (.int .u8)) (hb : w.heap[b]? = some (.map es clock)) {i : Nat} {v : Value}
    (hf : findNow (.int .u8) (.int .u8 n) es.toList 0 = some (some (i, v))) : (lookup t (.map (some b)) (.int .u8 n) true).run P w = .ok (.tuple #[v, .bool true]) w := by
  have h1 := fun c => run_checkKey_u8 (P := P) (w := w) (n := n) hk c 9999
  have h2 := run_findKey_u8 (P := P) (w := w) hk hf
  simp [lookup, run_underlying ht, getObj, hb, h1, h2, Sem.run]
theorem run_lookup_not (ht : P.underlying t = some (.map k e)) (hk : P.underlying k = some (.int .u8)) (hb : w.heap[b]? = some (.map es clock)) {z : Value} (hz : (zeroValue e).run P w = .ok z w)
    (hf : findNow (.int .u8) (.int .u8 n) es.toList 0 = some none) : (lookup t (.map (some b)) (.int .u8 n) true).run P w = .ok (.tuple #[z, .bool false]) w := by
  have h1 := fun c => run_checkKey_u8 (P := P) (w := w) (n := n) hk c 9999
  have h2 := run_findKey_u8 (P := P) (w := w) hk hf
  simp [lookup, run_underlying ht, getObj, hb, h1, h2, hz, Sem.run]
end
section
variable {P : Program} {ops : Array Oper} {rest : List Oper} {o : Oper} {a : Act} {Q : Exit → Act → World → Prop} {w : World} {t k e : TypeId} {b clock : Nat} {es : Array MapEntry} {n : Int}
/-- A key that is not there yet is stored. -/
theorem map_put (hg : o.guard = none) (m x v : Operand) (hop : o.op = .mapUpdate t m x v ∨ o.op = .insert t m x v) (ht : P.underlying t = some (.map k e)) (hk : P.underlying k = some (.int .u8))
    (hm : a.eval m = .map (some b)) (hx : a.eval x = .int .u8 n) (val : Value) (hv : a.eval v = val) (hb : w.heap[b]? = some (.map es clock)) (hf : findNow (.int .u8) (.int .u8 n) es.toList 0 = some none)
    (h : ∀ w1, w1.heap[b]? = some (.map (es.push ⟨.int .u8 n, val, clock⟩) (clock + 1)) → w.grownBy w1 (some b) → wpList P ops Q rest (a.put o.dst undef) w1) : wpList P ops Q (o :: rest) a w := by
  refine wpList_plain hg fun K hK => ?_
  have hrun := run_mapUpdate_new (P := P) (w := w) ht hk hb val hf
  unfold Oper.wp
  rcases hop with hop | hop <;> simp [execOp, hop, hm, hx, hv, hrun, Result.andThen] <;> exact hK _ _ (h _ (setObj_same hb) setObj_grown)
theorem map_has (hg : o.guard = none) (m x : Operand) (hop : o.op = .lookup t m x true) (ht : P.underlying t = some (.map k e)) (hk : P.underlying k = some (.int .u8))
    (hm : a.eval m = .map (some b)) (hx : a.eval x = .int .u8 n) (hb : w.heap[b]? = some (.map es clock)) (i : Nat) (v : Value) (hf : findNow (.int .u8) (.int .u8 n) es.toList 0 = some (some (i, v)))
    (h : wpList P ops Q rest (a.put o.dst (.tuple #[v, .bool true])) w) : wpList P ops Q (o :: rest) a w := by
  refine wpList_plain hg fun K hK => ?_
  have hrun := run_lookup_has (P := P) (w := w) ht hk hb hf
  unfold Oper.wp
  simp [execOp, hop, hm, hx, hrun, Result.andThen]
  exact hK _ _ h
theorem map_not (hg : o.guard = none) (m x : Operand) (hop : o.op = .lookup t m x true) (ht : P.underlying t = some (.map k e)) (hk : P.underlying k = some (.int .u8))
    (hm : a.eval m = .map (some b)) (hx : a.eval x = .int .u8 n) (hb : w.heap[b]? = some (.map es clock)) (z : Value) (hz : (zeroValue e).run P w = .ok z w) (hf : findNow (.int .u8) (.int .u8 n) es.toList 0 = some none)
    (h : wpList P ops Q rest (a.put o.dst (.tuple #[z, .bool false])) w) : wpList P ops Q (o :: rest) a w := by
  refine wpList_plain hg fun K hK => ?_
  have hrun := run_lookup_not (P := P) (w := w) ht hk hb hz hf
  unfold Oper.wp
  simp [execOp, hop, hm, hx, hrun, Result.andThen]
  exact hK _ _ h
end
end Go.Proofs.Ytlbchdalimngjaa.P
