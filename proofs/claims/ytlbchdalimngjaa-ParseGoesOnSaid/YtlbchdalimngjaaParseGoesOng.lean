/- Parts of a proof, joined by a program: Proved here: the statement prompterlaw09.ParseGoesOn holds for every input that the row speaks of (no condition of mine). -/
import Derived.Laws.EntriesVeiled
import Derived.Test.YtlbchdalimngjaaParseGoesOnf
namespace Go.Proofs.Ytlbchdalimngjaa.P
open Go.RowKit Go.Proofs.YtlbchdalimngjaaW.PrintWords Go.Proofs.YtlbchdalimngjaaW.PrintLast Go.Proofs.YtlbchdalimngjaaW.PrintMore
open Go.Instr
attribute [local go_sem] max2_int min2_int max_two min_two max_three min_three max_four min_four
set_option linter.unusedVariables false
set_option linter.unusedSimpArgs false
structure Form where
  tx : Nat
  le : Int
  mo : Int
  pt : Nat
def Form.cells (f : Form) : Array Value := #[.func (.func f.tx) #[] #[], .int .i64 f.le, .int .i64 f.mo, .func (.func f.pt) #[] #[]]
def formBase : List (Int × Form) := [(1, ⟨69, 1, 2048, 70⟩), (2, ⟨69, 0, 0, 71⟩), (3, ⟨72, 0, 2048, 73⟩), (6, ⟨72, 2, 3, 74⟩), (7, ⟨72, 2, 2, 74⟩), (24, ⟨75, 0, 0, 71⟩), (25, ⟨72, 0, 2048, 76⟩), (53, ⟨72, 1, 1, 77⟩), (23, ⟨72, 0, 0, 71⟩)]
def formMore : List (Int × Form) := [(4, ⟨69, 1, 1, 76⟩), (5, ⟨69, 1, 1, 76⟩), (8, ⟨72, 1, 1, 76⟩), (9, ⟨72, 1, 1, 76⟩), (10, ⟨72, 1, 1, 76⟩), (11, ⟨72, 1, 1, 76⟩), (20, ⟨72, 0, 0, 71⟩), (21, ⟨72, 0, 0, 71⟩), (22, ⟨72, 0, 0, 71⟩), (26, ⟨69, 0, 0, 71⟩), (30, ⟨72, 2, 2, 76⟩), (31, ⟨72, 2, 2, 76⟩), (32, ⟨72, 2, 2, 76⟩), (33, ⟨72, 2, 2, 76⟩), (34, ⟨72, 2, 2, 76⟩), (35, ⟨72, 2, 2, 76⟩), (36, ⟨72, 2, 2, 76⟩), (37, ⟨72, 2, 2, 76⟩), (38, ⟨72, 2, 2, 76⟩), (39, ⟨72, 2, 2, 76⟩), (40, ⟨72, 2, 2, 76⟩), (41, ⟨72, 2, 2, 76⟩), (42, ⟨72, 2, 2, 76⟩), (43, ⟨72, 1, 1, 76⟩), (44, ⟨72, 1, 1, 76⟩), (45, ⟨72, 1, 1, 76⟩), (46, ⟨72, 1, 1, 76⟩), (47, ⟨72, 1, 1, 76⟩), (48, ⟨72, 1, 1, 76⟩), (50, ⟨69, 0, 2048, 76⟩), (51, ⟨69, 0, 2048, 76⟩), (52, ⟨72, 1, 1, 76⟩), (54, ⟨72, 1, 1, 76⟩), (55, ⟨72, 1, 1, 76⟩), (56, ⟨69, 0, 0, 71⟩), (57, ⟨72, 0, 0, 71⟩)]
def formTab (n : Int) : List (Int × Form) := formBase ++ formMore.filter (fun p => p.1 < n)
def formEnt : Nat → List (Int × Form) → List MapEntry
  | _, [] => []
  | i, p :: l => ⟨.int .u8 p.1, .agg p.2.cells, i⟩ :: formEnt (i + 1) l
def formMap (n : Int) : Obj := .map (formEnt 0 (formTab n)).toArray (formTab n).length
section
variable {P : Program} {ops : Array Oper} {rest : List Oper} {o : Oper} {a : Act} {Q : Exit → Act → World → Prop} {W : World}
theorem gate_insert {t : TypeId} {m k v : Operand} (_h : o.op = .insert t m k v) (h : wpList P ops Q (o :: rest) a W) : wpList P ops Q (o :: rest) a W := h
theorem gate_update {t : TypeId} {m k v : Operand} (_h : o.op = .mapUpdate t m k v) (h : wpList P ops Q (o :: rest) a W) : wpList P ops Q (o :: rest) a W := h
theorem gate_lookup {t : TypeId} {m k : Operand} (_h : o.op = .lookup t m k true) (h : wpList P ops Q (o :: rest) a W) : wpList P ops Q (o :: rest) a W := h
theorem gate_makeMap {t : TypeId} (_h : o.op = .makeMap t none) (h : wpList P ops Q (o :: rest) a W) : wpList P ops Q (o :: rest) a W := h
theorem map_make {t : TypeId} (hg : o.guard = none) (hop : o.op = .makeMap t none)
    (h : ∀ b, b = W.heap.size → ∀ w1, w1.heap[b]? = some (.map #[] 0) → Below W.heap.size W w1 → wpList P ops Q rest (a.put o.dst (.map (some b))) w1) : wpList P ops Q (o :: rest) a W :=
  Kd.event_run hg (by simp [execOp, hop, makeMap, newObj, Sem.run, Result.andThen]) (h _ rfl _ (blk_new W _) (below_alloc (Below.refl _ _) _))
end
theorem obj_far {w : World} {g : Nat} {o : Obj} (h : w.heap[g]? = some o) {p : Addr} {u : Value} (hp : g ≠ p.block) : (w.setCell p u).heap[g]? = some o := (Below.heap_setCell w p u g hp).trans h
theorem form_zero (w : World) : (zeroValue 73).run Try.prog w = .ok (.agg #[.nilFunc, .int .i64 0, .int .i64 0, .nilFunc]) w := by kernel_rfl
set_option maxHeartbeats 16000000 in
set_option maxRecDepth 100000 in
theorem tree_forms.calls (w : World) : Calls Try.prog 51 #[] w fun e w' => ∃ b, e = .returned (.map (some b)) ∧ w'.heap[b]? = some (formMap 58) ∧ Below w.heap.size w w' ∧ w.heap.size ≤ b := by
  have hm := Try.underlying68
  have hk := Try.underlying5
  have hu := Try.underlying73
  have HB := Aside0.mk (Below.refl w.heap.size w)
  go_enter Try.func51, Try.ntmps51
  go_wp2_with (first | ((with_reducible refine gate_makeMap rfl ?_); refine map_make rfl rfl ?_; intro b hbe w1 hb1 hbl; have GW := Aside0.mk (show w.heap.size ≤ b by rw [hbe]; exact Nat.le_refl _); have HM := Aside0.mk hb1; have HB2 := Aside0.mk (below_step HB.out hbl); clear HB; have HB := HB2; clear HB2 hbe hb1 hbl) | ((with_reducible refine gate_insert rfl ?_); refine map_put rfl _ _ _ (Or.inr rfl) hm hk rfl rfl _ rfl HM.out (by rfl) ?_; intro w1 hb1 hg1; have HM2 := Aside0.mk hb1; have HB2 := Aside0.mk (HB.out.grown hg1 HB.out.size (fun k hk => by cases hk; exact GW.out)); clear HM HB hb1 hg1; have HM := HM2; have HB := HB2; clear HM2 HB2))
  have HM1 : Aside0 (_ = some (formMap 1)) := ⟨HM.out⟩
  clear HM
  go_loopg [2] 57 (fun kq v2 w' => ∃ n : Nat, v2 = .int .u8 n ∧ Aside0 (1 ≤ n ∧ kq + n = 58) ∧ Aside0 (w'.heap[b]? = some (formMap n)) ∧ Aside0 (Below w.heap.size w w'))
  case atStart => exact ⟨1, rfl, ⟨by omega⟩, HM1, HB⟩
  case round =>
    clear HM1 HB
    obtain ⟨n, rfl, HN, HM, HB⟩ := hrel
    by_cases hlast : n = 58
    · subst hlast
      go_wp2
      go_ret
      exact ⟨b, rfl, HM.out, HB.out, GW.out⟩
    have hc : n = 1 ∨ n = 2 ∨ n = 3 ∨ n = 4 ∨ n = 5 ∨ n = 6 ∨ n = 7 ∨ n = 8 ∨ n = 9 ∨ n = 10 ∨ n = 11 ∨ n = 12 ∨ n = 13 ∨ n = 14 ∨ n = 15 ∨ n = 16 ∨ n = 17 ∨ n = 18 ∨ n = 19 ∨ n = 20 ∨ n = 21 ∨ n = 22 ∨ n = 23 ∨ n = 24 ∨ n = 25 ∨ n = 26 ∨ n = 27 ∨ n = 28 ∨ n = 29 ∨ n = 30 ∨ n = 31 ∨ n = 32 ∨ n = 33 ∨ n = 34 ∨ n = 35 ∨ n = 36 ∨ n = 37 ∨ n = 38 ∨ n = 39 ∨ n = 40 ∨ n = 41 ∨ n = 42 ∨ n = 43 ∨ n = 44 ∨ n = 45 ∨ n = 46 ∨ n = 47 ∨ n = 48 ∨ n = 49 ∨ n = 50 ∨ n = 51 ∨ n = 52 ∨ n = 53 ∨ n = 54 ∨ n = 55 ∨ n = 56 ∨ n = 57 := by have := HN.out; omega
    clear hlast
    rcases hc with rfl | rfl | rfl | rfl | rfl | rfl | rfl | rfl | rfl | rfl | rfl | rfl | rfl | rfl | rfl | rfl | rfl | rfl | rfl | rfl | rfl | rfl | rfl | rfl | rfl | rfl | rfl | rfl | rfl | rfl | rfl | rfl | rfl | rfl | rfl | rfl | rfl | rfl | rfl | rfl | rfl | rfl | rfl | rfl | rfl | rfl | rfl | rfl | rfl | rfl | rfl | rfl | rfl | rfl | rfl | rfl | rfl
    · go_wp2_with (first | ((with_reducible refine gate_lookup rfl ?_); refine map_has rfl _ _ rfl hm hk rfl rfl HM.out 0 (.agg #[.func (.func 69) #[] #[], .int .i64 1, .int .i64 2048, .func (.func 70) #[] #[]]) (by rfl) ?_) | ((with_reducible refine gate_dst (N := 3) rfl ?_); refine box_event ?hg (N := 3) ?hd (cs := #[.nilFunc, .int .i64 0, .int .i64 0, .nilFunc]) (t := 73) ?hr ?_; (case hd => rfl); (case hg => rfl); (case hr => first | (go_simp; done) | (go_simp; rfl)); intro gb hg w1 hbox hb; have n0 := Aside0.mk (blk_below HM.out hb); have n1 := Aside0.mk (below_step HB.out hb); have n2 := Aside0.mk hbox; have n3 := Aside0.mk (show w.heap.size ≤ gb by rw [hg]; exact below_size HB.out); have n4 := Aside0.mk (show b ≠ gb by rw [hg]; exact Nat.ne_of_lt (blk_lt HM.out)); clear HM HB; have HM := n0; have HB := n1; have BK := n2; have GE := n3; have NB := n4; clear n0 n1 n2 n3 n4 hb hbox hg; have hcz0 : w1.cell? ⟨gb, 0, none⟩ = some .nilFunc := (blk_cell BK.out 0).trans rfl; have hcz1 : w1.cell? ⟨gb, 1, none⟩ = some (.int .i64 0) := (blk_cell BK.out 1).trans rfl; have hcz2 : w1.cell? ⟨gb, 2, none⟩ = some (.int .i64 0) := (blk_cell BK.out 2).trans rfl; have hcz3 : w1.cell? ⟨gb, 3, none⟩ = some .nilFunc := (blk_cell BK.out 3).trans rfl; have hfz0 := blk_frozen BK.out 0; have hfz1 := blk_frozen BK.out 1; have hfz2 := blk_frozen BK.out 2; have hfz3 := blk_frozen BK.out 3))
      go_roundg 56
      case measure => have := HN.out; omega
      case rel => exact ⟨2, rfl, ⟨by omega⟩, ⟨(obj_far (obj_far (obj_far (obj_far HM.out NB.out) NB.out) NB.out) NB.out)⟩, ⟨below_set (below_set (below_set (below_set HB.out GE.out) GE.out) GE.out) GE.out⟩⟩
    · go_wp2_with (first | ((with_reducible refine gate_lookup rfl ?_); refine map_has rfl _ _ rfl hm hk rfl rfl HM.out 1 (.agg #[.func (.func 69) #[] #[], .int .i64 0, .int .i64 0, .func (.func 71) #[] #[]]) (by rfl) ?_) | ((with_reducible refine gate_dst (N := 3) rfl ?_); refine box_event ?hg (N := 3) ?hd (cs := #[.nilFunc, .int .i64 0, .int .i64 0, .nilFunc]) (t := 73) ?hr ?_; (case hd => rfl); (case hg => rfl); (case hr => first | (go_simp; done) | (go_simp; rfl)); intro gb hg w1 hbox hb; have n0 := Aside0.mk (blk_below HM.out hb); have n1 := Aside0.mk (below_step HB.out hb); have n2 := Aside0.mk hbox; have n3 := Aside0.mk (show w.heap.size ≤ gb by rw [hg]; exact below_size HB.out); have n4 := Aside0.mk (show b ≠ gb by rw [hg]; exact Nat.ne_of_lt (blk_lt HM.out)); clear HM HB; have HM := n0; have HB := n1; have BK := n2; have GE := n3; have NB := n4; clear n0 n1 n2 n3 n4 hb hbox hg; have hcz0 : w1.cell? ⟨gb, 0, none⟩ = some .nilFunc := (blk_cell BK.out 0).trans rfl; have hcz1 : w1.cell? ⟨gb, 1, none⟩ = some (.int .i64 0) := (blk_cell BK.out 1).trans rfl; have hcz2 : w1.cell? ⟨gb, 2, none⟩ = some (.int .i64 0) := (blk_cell BK.out 2).trans rfl; have hcz3 : w1.cell? ⟨gb, 3, none⟩ = some .nilFunc := (blk_cell BK.out 3).trans rfl; have hfz0 := blk_frozen BK.out 0; have hfz1 := blk_frozen BK.out 1; have hfz2 := blk_frozen BK.out 2; have hfz3 := blk_frozen BK.out 3))
      go_roundg 55
      case measure => have := HN.out; omega
      case rel => exact ⟨3, rfl, ⟨by omega⟩, ⟨(obj_far (obj_far (obj_far (obj_far HM.out NB.out) NB.out) NB.out) NB.out)⟩, ⟨below_set (below_set (below_set (below_set HB.out GE.out) GE.out) GE.out) GE.out⟩⟩
    · go_wp2_with (first | ((with_reducible refine gate_lookup rfl ?_); refine map_has rfl _ _ rfl hm hk rfl rfl HM.out 2 (.agg #[.func (.func 72) #[] #[], .int .i64 0, .int .i64 2048, .func (.func 73) #[] #[]]) (by rfl) ?_) | ((with_reducible refine gate_dst (N := 3) rfl ?_); refine box_event ?hg (N := 3) ?hd (cs := #[.nilFunc, .int .i64 0, .int .i64 0, .nilFunc]) (t := 73) ?hr ?_; (case hd => rfl); (case hg => rfl); (case hr => first | (go_simp; done) | (go_simp; rfl)); intro gb hg w1 hbox hb; have n0 := Aside0.mk (blk_below HM.out hb); have n1 := Aside0.mk (below_step HB.out hb); have n2 := Aside0.mk hbox; have n3 := Aside0.mk (show w.heap.size ≤ gb by rw [hg]; exact below_size HB.out); have n4 := Aside0.mk (show b ≠ gb by rw [hg]; exact Nat.ne_of_lt (blk_lt HM.out)); clear HM HB; have HM := n0; have HB := n1; have BK := n2; have GE := n3; have NB := n4; clear n0 n1 n2 n3 n4 hb hbox hg; have hcz0 : w1.cell? ⟨gb, 0, none⟩ = some .nilFunc := (blk_cell BK.out 0).trans rfl; have hcz1 : w1.cell? ⟨gb, 1, none⟩ = some (.int .i64 0) := (blk_cell BK.out 1).trans rfl; have hcz2 : w1.cell? ⟨gb, 2, none⟩ = some (.int .i64 0) := (blk_cell BK.out 2).trans rfl; have hcz3 : w1.cell? ⟨gb, 3, none⟩ = some .nilFunc := (blk_cell BK.out 3).trans rfl; have hfz0 := blk_frozen BK.out 0; have hfz1 := blk_frozen BK.out 1; have hfz2 := blk_frozen BK.out 2; have hfz3 := blk_frozen BK.out 3))
      go_roundg 54
      case measure => have := HN.out; omega
      case rel => exact ⟨4, rfl, ⟨by omega⟩, ⟨(obj_far (obj_far (obj_far (obj_far HM.out NB.out) NB.out) NB.out) NB.out)⟩, ⟨below_set (below_set (below_set (below_set HB.out GE.out) GE.out) GE.out) GE.out⟩⟩
    · go_wp2_with (first | ((with_reducible refine gate_lookup rfl ?_); refine map_not rfl _ _ rfl hm hk rfl rfl HM.out _ (form_zero _) (by rfl) ?_) | ((with_reducible refine gate_dst (N := 3) rfl ?_); refine box_event ?hg (N := 3) ?hd (cs := #[.nilFunc, .int .i64 0, .int .i64 0, .nilFunc]) (t := 73) ?hr ?_; (case hd => rfl); (case hg => rfl); (case hr => first | (go_simp; done) | (go_simp; rfl)); intro gb hg w1 hbox hb; have n0 := Aside0.mk (blk_below HM.out hb); have n1 := Aside0.mk (below_step HB.out hb); have n2 := Aside0.mk hbox; have n3 := Aside0.mk (show w.heap.size ≤ gb by rw [hg]; exact below_size HB.out); have n4 := Aside0.mk (show b ≠ gb by rw [hg]; exact Nat.ne_of_lt (blk_lt HM.out)); clear HM HB; have HM := n0; have HB := n1; have BK := n2; have GE := n3; have NB := n4; clear n0 n1 n2 n3 n4 hb hbox hg; have hcz0 : w1.cell? ⟨gb, 0, none⟩ = some .nilFunc := (blk_cell BK.out 0).trans rfl; have hcz1 : w1.cell? ⟨gb, 1, none⟩ = some (.int .i64 0) := (blk_cell BK.out 1).trans rfl; have hcz2 : w1.cell? ⟨gb, 2, none⟩ = some (.int .i64 0) := (blk_cell BK.out 2).trans rfl; have hcz3 : w1.cell? ⟨gb, 3, none⟩ = some .nilFunc := (blk_cell BK.out 3).trans rfl; have hfz0 := blk_frozen BK.out 0; have hfz1 := blk_frozen BK.out 1; have hfz2 := blk_frozen BK.out 2; have hfz3 := blk_frozen BK.out 3) | ((with_reducible refine gate_update rfl ?_); refine map_put rfl _ _ _ (Or.inl rfl) hm hk rfl rfl _ rfl (obj_far (obj_far (obj_far (obj_far HM.out NB.out) NB.out) NB.out) NB.out) (by rfl) ?_; intro w2 hb1 hg1; have HM2 := Aside0.mk hb1; have HB2 := Aside0.mk (RowKit.Below.grown (below_set (below_set (below_set (below_set HB.out GE.out) GE.out) GE.out) GE.out) hg1 (below_size (below_set (below_set (below_set (below_set HB.out GE.out) GE.out) GE.out) GE.out)) (fun k hk => by cases hk; exact GW.out)); clear HM HB hb1 hg1; have HM := HM2; have HB := HB2; clear HM2 HB2))
      go_roundg 53
      case measure => have := HN.out; omega
      case rel => exact ⟨5, rfl, ⟨by omega⟩, ⟨HM.out⟩, HB⟩
    · go_wp2_with (first | ((with_reducible refine gate_lookup rfl ?_); refine map_not rfl _ _ rfl hm hk rfl rfl HM.out _ (form_zero _) (by rfl) ?_) | ((with_reducible refine gate_dst (N := 3) rfl ?_); refine box_event ?hg (N := 3) ?hd (cs := #[.nilFunc, .int .i64 0, .int .i64 0, .nilFunc]) (t := 73) ?hr ?_; (case hd => rfl); (case hg => rfl); (case hr => first | (go_simp; done) | (go_simp; rfl)); intro gb hg w1 hbox hb; have n0 := Aside0.mk (blk_below HM.out hb); have n1 := Aside0.mk (below_step HB.out hb); have n2 := Aside0.mk hbox; have n3 := Aside0.mk (show w.heap.size ≤ gb by rw [hg]; exact below_size HB.out); have n4 := Aside0.mk (show b ≠ gb by rw [hg]; exact Nat.ne_of_lt (blk_lt HM.out)); clear HM HB; have HM := n0; have HB := n1; have BK := n2; have GE := n3; have NB := n4; clear n0 n1 n2 n3 n4 hb hbox hg; have hcz0 : w1.cell? ⟨gb, 0, none⟩ = some .nilFunc := (blk_cell BK.out 0).trans rfl; have hcz1 : w1.cell? ⟨gb, 1, none⟩ = some (.int .i64 0) := (blk_cell BK.out 1).trans rfl; have hcz2 : w1.cell? ⟨gb, 2, none⟩ = some (.int .i64 0) := (blk_cell BK.out 2).trans rfl; have hcz3 : w1.cell? ⟨gb, 3, none⟩ = some .nilFunc := (blk_cell BK.out 3).trans rfl; have hfz0 := blk_frozen BK.out 0; have hfz1 := blk_frozen BK.out 1; have hfz2 := blk_frozen BK.out 2; have hfz3 := blk_frozen BK.out 3) | ((with_reducible refine gate_update rfl ?_); refine map_put rfl _ _ _ (Or.inl rfl) hm hk rfl rfl _ rfl (obj_far (obj_far (obj_far (obj_far HM.out NB.out) NB.out) NB.out) NB.out) (by rfl) ?_; intro w2 hb1 hg1; have HM2 := Aside0.mk hb1; have HB2 := Aside0.mk (RowKit.Below.grown (below_set (below_set (below_set (below_set HB.out GE.out) GE.out) GE.out) GE.out) hg1 (below_size (below_set (below_set (below_set (below_set HB.out GE.out) GE.out) GE.out) GE.out)) (fun k hk => by cases hk; exact GW.out)); clear HM HB hb1 hg1; have HM := HM2; have HB := HB2; clear HM2 HB2))
      go_roundg 52
      case measure => have := HN.out; omega
      case rel => exact ⟨6, rfl, ⟨by omega⟩, ⟨HM.out⟩, HB⟩
    · go_wp2_with (first | ((with_reducible refine gate_lookup rfl ?_); refine map_has rfl _ _ rfl hm hk rfl rfl HM.out 3 (.agg #[.func (.func 72) #[] #[], .int .i64 2, .int .i64 3, .func (.func 74) #[] #[]]) (by rfl) ?_) | ((with_reducible refine gate_dst (N := 3) rfl ?_); refine box_event ?hg (N := 3) ?hd (cs := #[.nilFunc, .int .i64 0, .int .i64 0, .nilFunc]) (t := 73) ?hr ?_; (case hd => rfl); (case hg => rfl); (case hr => first | (go_simp; done) | (go_simp; rfl)); intro gb hg w1 hbox hb; have n0 := Aside0.mk (blk_below HM.out hb); have n1 := Aside0.mk (below_step HB.out hb); have n2 := Aside0.mk hbox; have n3 := Aside0.mk (show w.heap.size ≤ gb by rw [hg]; exact below_size HB.out); have n4 := Aside0.mk (show b ≠ gb by rw [hg]; exact Nat.ne_of_lt (blk_lt HM.out)); clear HM HB; have HM := n0; have HB := n1; have BK := n2; have GE := n3; have NB := n4; clear n0 n1 n2 n3 n4 hb hbox hg; have hcz0 : w1.cell? ⟨gb, 0, none⟩ = some .nilFunc := (blk_cell BK.out 0).trans rfl; have hcz1 : w1.cell? ⟨gb, 1, none⟩ = some (.int .i64 0) := (blk_cell BK.out 1).trans rfl; have hcz2 : w1.cell? ⟨gb, 2, none⟩ = some (.int .i64 0) := (blk_cell BK.out 2).trans rfl; have hcz3 : w1.cell? ⟨gb, 3, none⟩ = some .nilFunc := (blk_cell BK.out 3).trans rfl; have hfz0 := blk_frozen BK.out 0; have hfz1 := blk_frozen BK.out 1; have hfz2 := blk_frozen BK.out 2; have hfz3 := blk_frozen BK.out 3))
      go_roundg 51
      case measure => have := HN.out; omega
      case rel => exact ⟨7, rfl, ⟨by omega⟩, ⟨(obj_far (obj_far (obj_far (obj_far HM.out NB.out) NB.out) NB.out) NB.out)⟩, ⟨below_set (below_set (below_set (below_set HB.out GE.out) GE.out) GE.out) GE.out⟩⟩
    · go_wp2_with (first | ((with_reducible refine gate_lookup rfl ?_); refine map_has rfl _ _ rfl hm hk rfl rfl HM.out 4 (.agg #[.func (.func 72) #[] #[], .int .i64 2, .int .i64 2, .func (.func 74) #[] #[]]) (by rfl) ?_) | ((with_reducible refine gate_dst (N := 3) rfl ?_); refine box_event ?hg (N := 3) ?hd (cs := #[.nilFunc, .int .i64 0, .int .i64 0, .nilFunc]) (t := 73) ?hr ?_; (case hd => rfl); (case hg => rfl); (case hr => first | (go_simp; done) | (go_simp; rfl)); intro gb hg w1 hbox hb; have n0 := Aside0.mk (blk_below HM.out hb); have n1 := Aside0.mk (below_step HB.out hb); have n2 := Aside0.mk hbox; have n3 := Aside0.mk (show w.heap.size ≤ gb by rw [hg]; exact below_size HB.out); have n4 := Aside0.mk (show b ≠ gb by rw [hg]; exact Nat.ne_of_lt (blk_lt HM.out)); clear HM HB; have HM := n0; have HB := n1; have BK := n2; have GE := n3; have NB := n4; clear n0 n1 n2 n3 n4 hb hbox hg; have hcz0 : w1.cell? ⟨gb, 0, none⟩ = some .nilFunc := (blk_cell BK.out 0).trans rfl; have hcz1 : w1.cell? ⟨gb, 1, none⟩ = some (.int .i64 0) := (blk_cell BK.out 1).trans rfl; have hcz2 : w1.cell? ⟨gb, 2, none⟩ = some (.int .i64 0) := (blk_cell BK.out 2).trans rfl; have hcz3 : w1.cell? ⟨gb, 3, none⟩ = some .nilFunc := (blk_cell BK.out 3).trans rfl; have hfz0 := blk_frozen BK.out 0; have hfz1 := blk_frozen BK.out 1; have hfz2 := blk_frozen BK.out 2; have hfz3 := blk_frozen BK.out 3))
      go_roundg 50
      case measure => have := HN.out; omega
      case rel => exact ⟨8, rfl, ⟨by omega⟩, ⟨(obj_far (obj_far (obj_far (obj_far HM.out NB.out) NB.out) NB.out) NB.out)⟩, ⟨below_set (below_set (below_set (below_set HB.out GE.out) GE.out) GE.out) GE.out⟩⟩
    · go_wp2_with (first | ((with_reducible refine gate_lookup rfl ?_); refine map_not rfl _ _ rfl hm hk rfl rfl HM.out _ (form_zero _) (by rfl) ?_) | ((with_reducible refine gate_dst (N := 3) rfl ?_); refine box_event ?hg (N := 3) ?hd (cs := #[.nilFunc, .int .i64 0, .int .i64 0, .nilFunc]) (t := 73) ?hr ?_; (case hd => rfl); (case hg => rfl); (case hr => first | (go_simp; done) | (go_simp; rfl)); intro gb hg w1 hbox hb; have n0 := Aside0.mk (blk_below HM.out hb); have n1 := Aside0.mk (below_step HB.out hb); have n2 := Aside0.mk hbox; have n3 := Aside0.mk (show w.heap.size ≤ gb by rw [hg]; exact below_size HB.out); have n4 := Aside0.mk (show b ≠ gb by rw [hg]; exact Nat.ne_of_lt (blk_lt HM.out)); clear HM HB; have HM := n0; have HB := n1; have BK := n2; have GE := n3; have NB := n4; clear n0 n1 n2 n3 n4 hb hbox hg; have hcz0 : w1.cell? ⟨gb, 0, none⟩ = some .nilFunc := (blk_cell BK.out 0).trans rfl; have hcz1 : w1.cell? ⟨gb, 1, none⟩ = some (.int .i64 0) := (blk_cell BK.out 1).trans rfl; have hcz2 : w1.cell? ⟨gb, 2, none⟩ = some (.int .i64 0) := (blk_cell BK.out 2).trans rfl; have hcz3 : w1.cell? ⟨gb, 3, none⟩ = some .nilFunc := (blk_cell BK.out 3).trans rfl; have hfz0 := blk_frozen BK.out 0; have hfz1 := blk_frozen BK.out 1; have hfz2 := blk_frozen BK.out 2; have hfz3 := blk_frozen BK.out 3) | ((with_reducible refine gate_update rfl ?_); refine map_put rfl _ _ _ (Or.inl rfl) hm hk rfl rfl _ rfl (obj_far (obj_far (obj_far (obj_far HM.out NB.out) NB.out) NB.out) NB.out) (by rfl) ?_; intro w2 hb1 hg1; have HM2 := Aside0.mk hb1; have HB2 := Aside0.mk (RowKit.Below.grown (below_set (below_set (below_set (below_set HB.out GE.out) GE.out) GE.out) GE.out) hg1 (below_size (below_set (below_set (below_set (below_set HB.out GE.out) GE.out) GE.out) GE.out)) (fun k hk => by cases hk; exact GW.out)); clear HM HB hb1 hg1; have HM := HM2; have HB := HB2; clear HM2 HB2))
      go_roundg 49
      case measure => have := HN.out; omega
      case rel => exact ⟨9, rfl, ⟨by omega⟩, ⟨HM.out⟩, HB⟩
    · go_wp2_with (first | ((with_reducible refine gate_lookup rfl ?_); refine map_not rfl _ _ rfl hm hk rfl rfl HM.out _ (form_zero _) (by rfl) ?_) | ((with_reducible refine gate_dst (N := 3) rfl ?_); refine box_event ?hg (N := 3) ?hd (cs := #[.nilFunc, .int .i64 0, .int .i64 0, .nilFunc]) (t := 73) ?hr ?_; (case hd => rfl); (case hg => rfl); (case hr => first | (go_simp; done) | (go_simp; rfl)); intro gb hg w1 hbox hb; have n0 := Aside0.mk (blk_below HM.out hb); have n1 := Aside0.mk (below_step HB.out hb); have n2 := Aside0.mk hbox; have n3 := Aside0.mk (show w.heap.size ≤ gb by rw [hg]; exact below_size HB.out); have n4 := Aside0.mk (show b ≠ gb by rw [hg]; exact Nat.ne_of_lt (blk_lt HM.out)); clear HM HB; have HM := n0; have HB := n1; have BK := n2; have GE := n3; have NB := n4; clear n0 n1 n2 n3 n4 hb hbox hg; have hcz0 : w1.cell? ⟨gb, 0, none⟩ = some .nilFunc := (blk_cell BK.out 0).trans rfl; have hcz1 : w1.cell? ⟨gb, 1, none⟩ = some (.int .i64 0) := (blk_cell BK.out 1).trans rfl; have hcz2 : w1.cell? ⟨gb, 2, none⟩ = some (.int .i64 0) := (blk_cell BK.out 2).trans rfl; have hcz3 : w1.cell? ⟨gb, 3, none⟩ = some .nilFunc := (blk_cell BK.out 3).trans rfl; have hfz0 := blk_frozen BK.out 0; have hfz1 := blk_frozen BK.out 1; have hfz2 := blk_frozen BK.out 2; have hfz3 := blk_frozen BK.out 3) | ((with_reducible refine gate_update rfl ?_); refine map_put rfl _ _ _ (Or.inl rfl) hm hk rfl rfl _ rfl (obj_far (obj_far (obj_far (obj_far HM.out NB.out) NB.out) NB.out) NB.out) (by rfl) ?_; intro w2 hb1 hg1; have HM2 := Aside0.mk hb1; have HB2 := Aside0.mk (RowKit.Below.grown (below_set (below_set (below_set (below_set HB.out GE.out) GE.out) GE.out) GE.out) hg1 (below_size (below_set (below_set (below_set (below_set HB.out GE.out) GE.out) GE.out) GE.out)) (fun k hk => by cases hk; exact GW.out)); clear HM HB hb1 hg1; have HM := HM2; have HB := HB2; clear HM2 HB2))
      go_roundg 48
      case measure => have := HN.out; omega
      case rel => exact ⟨10, rfl, ⟨by omega⟩, ⟨HM.out⟩, HB⟩
    · go_wp2_with (first | ((with_reducible refine gate_lookup rfl ?_); refine map_not rfl _ _ rfl hm hk rfl rfl HM.out _ (form_zero _) (by rfl) ?_) | ((with_reducible refine gate_dst (N := 3) rfl ?_); refine box_event ?hg (N := 3) ?hd (cs := #[.nilFunc, .int .i64 0, .int .i64 0, .nilFunc]) (t := 73) ?hr ?_; (case hd => rfl); (case hg => rfl); (case hr => first | (go_simp; done) | (go_simp; rfl)); intro gb hg w1 hbox hb; have n0 := Aside0.mk (blk_below HM.out hb); have n1 := Aside0.mk (below_step HB.out hb); have n2 := Aside0.mk hbox; have n3 := Aside0.mk (show w.heap.size ≤ gb by rw [hg]; exact below_size HB.out); have n4 := Aside0.mk (show b ≠ gb by rw [hg]; exact Nat.ne_of_lt (blk_lt HM.out)); clear HM HB; have HM := n0; have HB := n1; have BK := n2; have GE := n3; have NB := n4; clear n0 n1 n2 n3 n4 hb hbox hg; have hcz0 : w1.cell? ⟨gb, 0, none⟩ = some .nilFunc := (blk_cell BK.out 0).trans rfl; have hcz1 : w1.cell? ⟨gb, 1, none⟩ = some (.int .i64 0) := (blk_cell BK.out 1).trans rfl; have hcz2 : w1.cell? ⟨gb, 2, none⟩ = some (.int .i64 0) := (blk_cell BK.out 2).trans rfl; have hcz3 : w1.cell? ⟨gb, 3, none⟩ = some .nilFunc := (blk_cell BK.out 3).trans rfl; have hfz0 := blk_frozen BK.out 0; have hfz1 := blk_frozen BK.out 1; have hfz2 := blk_frozen BK.out 2; have hfz3 := blk_frozen BK.out 3) | ((with_reducible refine gate_update rfl ?_); refine map_put rfl _ _ _ (Or.inl rfl) hm hk rfl rfl _ rfl (obj_far (obj_far (obj_far (obj_far HM.out NB.out) NB.out) NB.out) NB.out) (by rfl) ?_; intro w2 hb1 hg1; have HM2 := Aside0.mk hb1; have HB2 := Aside0.mk (RowKit.Below.grown (below_set (below_set (below_set (below_set HB.out GE.out) GE.out) GE.out) GE.out) hg1 (below_size (below_set (below_set (below_set (below_set HB.out GE.out) GE.out) GE.out) GE.out)) (fun k hk => by cases hk; exact GW.out)); clear HM HB hb1 hg1; have HM := HM2; have HB := HB2; clear HM2 HB2))
      go_roundg 47
      case measure => have := HN.out; omega
      case rel => exact ⟨11, rfl, ⟨by omega⟩, ⟨HM.out⟩, HB⟩
    · go_wp2_with (first | ((with_reducible refine gate_lookup rfl ?_); refine map_not rfl _ _ rfl hm hk rfl rfl HM.out _ (form_zero _) (by rfl) ?_) | ((with_reducible refine gate_dst (N := 3) rfl ?_); refine box_event ?hg (N := 3) ?hd (cs := #[.nilFunc, .int .i64 0, .int .i64 0, .nilFunc]) (t := 73) ?hr ?_; (case hd => rfl); (case hg => rfl); (case hr => first | (go_simp; done) | (go_simp; rfl)); intro gb hg w1 hbox hb; have n0 := Aside0.mk (blk_below HM.out hb); have n1 := Aside0.mk (below_step HB.out hb); have n2 := Aside0.mk hbox; have n3 := Aside0.mk (show w.heap.size ≤ gb by rw [hg]; exact below_size HB.out); have n4 := Aside0.mk (show b ≠ gb by rw [hg]; exact Nat.ne_of_lt (blk_lt HM.out)); clear HM HB; have HM := n0; have HB := n1; have BK := n2; have GE := n3; have NB := n4; clear n0 n1 n2 n3 n4 hb hbox hg; have hcz0 : w1.cell? ⟨gb, 0, none⟩ = some .nilFunc := (blk_cell BK.out 0).trans rfl; have hcz1 : w1.cell? ⟨gb, 1, none⟩ = some (.int .i64 0) := (blk_cell BK.out 1).trans rfl; have hcz2 : w1.cell? ⟨gb, 2, none⟩ = some (.int .i64 0) := (blk_cell BK.out 2).trans rfl; have hcz3 : w1.cell? ⟨gb, 3, none⟩ = some .nilFunc := (blk_cell BK.out 3).trans rfl; have hfz0 := blk_frozen BK.out 0; have hfz1 := blk_frozen BK.out 1; have hfz2 := blk_frozen BK.out 2; have hfz3 := blk_frozen BK.out 3) | ((with_reducible refine gate_update rfl ?_); refine map_put rfl _ _ _ (Or.inl rfl) hm hk rfl rfl _ rfl (obj_far (obj_far (obj_far (obj_far HM.out NB.out) NB.out) NB.out) NB.out) (by rfl) ?_; intro w2 hb1 hg1; have HM2 := Aside0.mk hb1; have HB2 := Aside0.mk (RowKit.Below.grown (below_set (below_set (below_set (below_set HB.out GE.out) GE.out) GE.out) GE.out) hg1 (below_size (below_set (below_set (below_set (below_set HB.out GE.out) GE.out) GE.out) GE.out)) (fun k hk => by cases hk; exact GW.out)); clear HM HB hb1 hg1; have HM := HM2; have HB := HB2; clear HM2 HB2))
      go_roundg 46
      case measure => have := HN.out; omega
      case rel => exact ⟨12, rfl, ⟨by omega⟩, ⟨HM.out⟩, HB⟩
    · go_wp2_with (first | ((with_reducible refine gate_lookup rfl ?_); refine map_not rfl _ _ rfl hm hk rfl rfl HM.out _ (form_zero _) (by rfl) ?_) | ((with_reducible refine gate_dst (N := 3) rfl ?_); refine box_event ?hg (N := 3) ?hd (cs := #[.nilFunc, .int .i64 0, .int .i64 0, .nilFunc]) (t := 73) ?hr ?_; (case hd => rfl); (case hg => rfl); (case hr => first | (go_simp; done) | (go_simp; rfl)); intro gb hg w1 hbox hb; have n0 := Aside0.mk (blk_below HM.out hb); have n1 := Aside0.mk (below_step HB.out hb); have n2 := Aside0.mk hbox; have n3 := Aside0.mk (show w.heap.size ≤ gb by rw [hg]; exact below_size HB.out); have n4 := Aside0.mk (show b ≠ gb by rw [hg]; exact Nat.ne_of_lt (blk_lt HM.out)); clear HM HB; have HM := n0; have HB := n1; have BK := n2; have GE := n3; have NB := n4; clear n0 n1 n2 n3 n4 hb hbox hg; have hcz0 : w1.cell? ⟨gb, 0, none⟩ = some .nilFunc := (blk_cell BK.out 0).trans rfl; have hcz1 : w1.cell? ⟨gb, 1, none⟩ = some (.int .i64 0) := (blk_cell BK.out 1).trans rfl; have hcz2 : w1.cell? ⟨gb, 2, none⟩ = some (.int .i64 0) := (blk_cell BK.out 2).trans rfl; have hcz3 : w1.cell? ⟨gb, 3, none⟩ = some .nilFunc := (blk_cell BK.out 3).trans rfl; have hfz0 := blk_frozen BK.out 0; have hfz1 := blk_frozen BK.out 1; have hfz2 := blk_frozen BK.out 2; have hfz3 := blk_frozen BK.out 3))
      go_roundg 45
      case measure => have := HN.out; omega
      case rel => exact ⟨13, rfl, ⟨by omega⟩, ⟨(obj_far (obj_far (obj_far (obj_far HM.out NB.out) NB.out) NB.out) NB.out)⟩, ⟨below_set (below_set (below_set (below_set HB.out GE.out) GE.out) GE.out) GE.out⟩⟩
    · go_wp2_with (first | ((with_reducible refine gate_lookup rfl ?_); refine map_not rfl _ _ rfl hm hk rfl rfl HM.out _ (form_zero _) (by rfl) ?_) | ((with_reducible refine gate_dst (N := 3) rfl ?_); refine box_event ?hg (N := 3) ?hd (cs := #[.nilFunc, .int .i64 0, .int .i64 0, .nilFunc]) (t := 73) ?hr ?_; (case hd => rfl); (case hg => rfl); (case hr => first | (go_simp; done) | (go_simp; rfl)); intro gb hg w1 hbox hb; have n0 := Aside0.mk (blk_below HM.out hb); have n1 := Aside0.mk (below_step HB.out hb); have n2 := Aside0.mk hbox; have n3 := Aside0.mk (show w.heap.size ≤ gb by rw [hg]; exact below_size HB.out); have n4 := Aside0.mk (show b ≠ gb by rw [hg]; exact Nat.ne_of_lt (blk_lt HM.out)); clear HM HB; have HM := n0; have HB := n1; have BK := n2; have GE := n3; have NB := n4; clear n0 n1 n2 n3 n4 hb hbox hg; have hcz0 : w1.cell? ⟨gb, 0, none⟩ = some .nilFunc := (blk_cell BK.out 0).trans rfl; have hcz1 : w1.cell? ⟨gb, 1, none⟩ = some (.int .i64 0) := (blk_cell BK.out 1).trans rfl; have hcz2 : w1.cell? ⟨gb, 2, none⟩ = some (.int .i64 0) := (blk_cell BK.out 2).trans rfl; have hcz3 : w1.cell? ⟨gb, 3, none⟩ = some .nilFunc := (blk_cell BK.out 3).trans rfl; have hfz0 := blk_frozen BK.out 0; have hfz1 := blk_frozen BK.out 1; have hfz2 := blk_frozen BK.out 2; have hfz3 := blk_frozen BK.out 3))
      go_roundg 44
      case measure => have := HN.out; omega
      case rel => exact ⟨14, rfl, ⟨by omega⟩, ⟨(obj_far (obj_far (obj_far (obj_far HM.out NB.out) NB.out) NB.out) NB.out)⟩, ⟨below_set (below_set (below_set (below_set HB.out GE.out) GE.out) GE.out) GE.out⟩⟩
    · go_wp2_with (first | ((with_reducible refine gate_lookup rfl ?_); refine map_not rfl _ _ rfl hm hk rfl rfl HM.out _ (form_zero _) (by rfl) ?_) | ((with_reducible refine gate_dst (N := 3) rfl ?_); refine box_event ?hg (N := 3) ?hd (cs := #[.nilFunc, .int .i64 0, .int .i64 0, .nilFunc]) (t := 73) ?hr ?_; (case hd => rfl); (case hg => rfl); (case hr => first | (go_simp; done) | (go_simp; rfl)); intro gb hg w1 hbox hb; have n0 := Aside0.mk (blk_below HM.out hb); have n1 := Aside0.mk (below_step HB.out hb); have n2 := Aside0.mk hbox; have n3 := Aside0.mk (show w.heap.size ≤ gb by rw [hg]; exact below_size HB.out); have n4 := Aside0.mk (show b ≠ gb by rw [hg]; exact Nat.ne_of_lt (blk_lt HM.out)); clear HM HB; have HM := n0; have HB := n1; have BK := n2; have GE := n3; have NB := n4; clear n0 n1 n2 n3 n4 hb hbox hg; have hcz0 : w1.cell? ⟨gb, 0, none⟩ = some .nilFunc := (blk_cell BK.out 0).trans rfl; have hcz1 : w1.cell? ⟨gb, 1, none⟩ = some (.int .i64 0) := (blk_cell BK.out 1).trans rfl; have hcz2 : w1.cell? ⟨gb, 2, none⟩ = some (.int .i64 0) := (blk_cell BK.out 2).trans rfl; have hcz3 : w1.cell? ⟨gb, 3, none⟩ = some .nilFunc := (blk_cell BK.out 3).trans rfl; have hfz0 := blk_frozen BK.out 0; have hfz1 := blk_frozen BK.out 1; have hfz2 := blk_frozen BK.out 2; have hfz3 := blk_frozen BK.out 3))
      go_roundg 43
      case measure => have := HN.out; omega
      case rel => exact ⟨15, rfl, ⟨by omega⟩, ⟨(obj_far (obj_far (obj_far (obj_far HM.out NB.out) NB.out) NB.out) NB.out)⟩, ⟨below_set (below_set (below_set (below_set HB.out GE.out) GE.out) GE.out) GE.out⟩⟩
    · go_wp2_with (first | ((with_reducible refine gate_lookup rfl ?_); refine map_not rfl _ _ rfl hm hk rfl rfl HM.out _ (form_zero _) (by rfl) ?_) | ((with_reducible refine gate_dst (N := 3) rfl ?_); refine box_event ?hg (N := 3) ?hd (cs := #[.nilFunc, .int .i64 0, .int .i64 0, .nilFunc]) (t := 73) ?hr ?_; (case hd => rfl); (case hg => rfl); (case hr => first | (go_simp; done) | (go_simp; rfl)); intro gb hg w1 hbox hb; have n0 := Aside0.mk (blk_below HM.out hb); have n1 := Aside0.mk (below_step HB.out hb); have n2 := Aside0.mk hbox; have n3 := Aside0.mk (show w.heap.size ≤ gb by rw [hg]; exact below_size HB.out); have n4 := Aside0.mk (show b ≠ gb by rw [hg]; exact Nat.ne_of_lt (blk_lt HM.out)); clear HM HB; have HM := n0; have HB := n1; have BK := n2; have GE := n3; have NB := n4; clear n0 n1 n2 n3 n4 hb hbox hg; have hcz0 : w1.cell? ⟨gb, 0, none⟩ = some .nilFunc := (blk_cell BK.out 0).trans rfl; have hcz1 : w1.cell? ⟨gb, 1, none⟩ = some (.int .i64 0) := (blk_cell BK.out 1).trans rfl; have hcz2 : w1.cell? ⟨gb, 2, none⟩ = some (.int .i64 0) := (blk_cell BK.out 2).trans rfl; have hcz3 : w1.cell? ⟨gb, 3, none⟩ = some .nilFunc := (blk_cell BK.out 3).trans rfl; have hfz0 := blk_frozen BK.out 0; have hfz1 := blk_frozen BK.out 1; have hfz2 := blk_frozen BK.out 2; have hfz3 := blk_frozen BK.out 3))
      go_roundg 42
      case measure => have := HN.out; omega
      case rel => exact ⟨16, rfl, ⟨by omega⟩, ⟨(obj_far (obj_far (obj_far (obj_far HM.out NB.out) NB.out) NB.out) NB.out)⟩, ⟨below_set (below_set (below_set (below_set HB.out GE.out) GE.out) GE.out) GE.out⟩⟩
    · go_wp2_with (first | ((with_reducible refine gate_lookup rfl ?_); refine map_not rfl _ _ rfl hm hk rfl rfl HM.out _ (form_zero _) (by rfl) ?_) | ((with_reducible refine gate_dst (N := 3) rfl ?_); refine box_event ?hg (N := 3) ?hd (cs := #[.nilFunc, .int .i64 0, .int .i64 0, .nilFunc]) (t := 73) ?hr ?_; (case hd => rfl); (case hg => rfl); (case hr => first | (go_simp; done) | (go_simp; rfl)); intro gb hg w1 hbox hb; have n0 := Aside0.mk (blk_below HM.out hb); have n1 := Aside0.mk (below_step HB.out hb); have n2 := Aside0.mk hbox; have n3 := Aside0.mk (show w.heap.size ≤ gb by rw [hg]; exact below_size HB.out); have n4 := Aside0.mk (show b ≠ gb by rw [hg]; exact Nat.ne_of_lt (blk_lt HM.out)); clear HM HB; have HM := n0; have HB := n1; have BK := n2; have GE := n3; have NB := n4; clear n0 n1 n2 n3 n4 hb hbox hg; have hcz0 : w1.cell? ⟨gb, 0, none⟩ = some .nilFunc := (blk_cell BK.out 0).trans rfl; have hcz1 : w1.cell? ⟨gb, 1, none⟩ = some (.int .i64 0) := (blk_cell BK.out 1).trans rfl; have hcz2 : w1.cell? ⟨gb, 2, none⟩ = some (.int .i64 0) := (blk_cell BK.out 2).trans rfl; have hcz3 : w1.cell? ⟨gb, 3, none⟩ = some .nilFunc := (blk_cell BK.out 3).trans rfl; have hfz0 := blk_frozen BK.out 0; have hfz1 := blk_frozen BK.out 1; have hfz2 := blk_frozen BK.out 2; have hfz3 := blk_frozen BK.out 3))
      go_roundg 41
      case measure => have := HN.out; omega
      case rel => exact ⟨17, rfl, ⟨by omega⟩, ⟨(obj_far (obj_far (obj_far (obj_far HM.out NB.out) NB.out) NB.out) NB.out)⟩, ⟨below_set (below_set (below_set (below_set HB.out GE.out) GE.out) GE.out) GE.out⟩⟩
    · go_wp2_with (first | ((with_reducible refine gate_lookup rfl ?_); refine map_not rfl _ _ rfl hm hk rfl rfl HM.out _ (form_zero _) (by rfl) ?_) | ((with_reducible refine gate_dst (N := 3) rfl ?_); refine box_event ?hg (N := 3) ?hd (cs := #[.nilFunc, .int .i64 0, .int .i64 0, .nilFunc]) (t := 73) ?hr ?_; (case hd => rfl); (case hg => rfl); (case hr => first | (go_simp; done) | (go_simp; rfl)); intro gb hg w1 hbox hb; have n0 := Aside0.mk (blk_below HM.out hb); have n1 := Aside0.mk (below_step HB.out hb); have n2 := Aside0.mk hbox; have n3 := Aside0.mk (show w.heap.size ≤ gb by rw [hg]; exact below_size HB.out); have n4 := Aside0.mk (show b ≠ gb by rw [hg]; exact Nat.ne_of_lt (blk_lt HM.out)); clear HM HB; have HM := n0; have HB := n1; have BK := n2; have GE := n3; have NB := n4; clear n0 n1 n2 n3 n4 hb hbox hg; have hcz0 : w1.cell? ⟨gb, 0, none⟩ = some .nilFunc := (blk_cell BK.out 0).trans rfl; have hcz1 : w1.cell? ⟨gb, 1, none⟩ = some (.int .i64 0) := (blk_cell BK.out 1).trans rfl; have hcz2 : w1.cell? ⟨gb, 2, none⟩ = some (.int .i64 0) := (blk_cell BK.out 2).trans rfl; have hcz3 : w1.cell? ⟨gb, 3, none⟩ = some .nilFunc := (blk_cell BK.out 3).trans rfl; have hfz0 := blk_frozen BK.out 0; have hfz1 := blk_frozen BK.out 1; have hfz2 := blk_frozen BK.out 2; have hfz3 := blk_frozen BK.out 3))
      go_roundg 40
      case measure => have := HN.out; omega
      case rel => exact ⟨18, rfl, ⟨by omega⟩, ⟨(obj_far (obj_far (obj_far (obj_far HM.out NB.out) NB.out) NB.out) NB.out)⟩, ⟨below_set (below_set (below_set (below_set HB.out GE.out) GE.out) GE.out) GE.out⟩⟩
    · go_wp2_with (first | ((with_reducible refine gate_lookup rfl ?_); refine map_not rfl _ _ rfl hm hk rfl rfl HM.out _ (form_zero _) (by rfl) ?_) | ((with_reducible refine gate_dst (N := 3) rfl ?_); refine box_event ?hg (N := 3) ?hd (cs := #[.nilFunc, .int .i64 0, .int .i64 0, .nilFunc]) (t := 73) ?hr ?_; (case hd => rfl); (case hg => rfl); (case hr => first | (go_simp; done) | (go_simp; rfl)); intro gb hg w1 hbox hb; have n0 := Aside0.mk (blk_below HM.out hb); have n1 := Aside0.mk (below_step HB.out hb); have n2 := Aside0.mk hbox; have n3 := Aside0.mk (show w.heap.size ≤ gb by rw [hg]; exact below_size HB.out); have n4 := Aside0.mk (show b ≠ gb by rw [hg]; exact Nat.ne_of_lt (blk_lt HM.out)); clear HM HB; have HM := n0; have HB := n1; have BK := n2; have GE := n3; have NB := n4; clear n0 n1 n2 n3 n4 hb hbox hg; have hcz0 : w1.cell? ⟨gb, 0, none⟩ = some .nilFunc := (blk_cell BK.out 0).trans rfl; have hcz1 : w1.cell? ⟨gb, 1, none⟩ = some (.int .i64 0) := (blk_cell BK.out 1).trans rfl; have hcz2 : w1.cell? ⟨gb, 2, none⟩ = some (.int .i64 0) := (blk_cell BK.out 2).trans rfl; have hcz3 : w1.cell? ⟨gb, 3, none⟩ = some .nilFunc := (blk_cell BK.out 3).trans rfl; have hfz0 := blk_frozen BK.out 0; have hfz1 := blk_frozen BK.out 1; have hfz2 := blk_frozen BK.out 2; have hfz3 := blk_frozen BK.out 3))
      go_roundg 39
      case measure => have := HN.out; omega
      case rel => exact ⟨19, rfl, ⟨by omega⟩, ⟨(obj_far (obj_far (obj_far (obj_far HM.out NB.out) NB.out) NB.out) NB.out)⟩, ⟨below_set (below_set (below_set (below_set HB.out GE.out) GE.out) GE.out) GE.out⟩⟩
    · go_wp2_with (first | ((with_reducible refine gate_lookup rfl ?_); refine map_not rfl _ _ rfl hm hk rfl rfl HM.out _ (form_zero _) (by rfl) ?_) | ((with_reducible refine gate_dst (N := 3) rfl ?_); refine box_event ?hg (N := 3) ?hd (cs := #[.nilFunc, .int .i64 0, .int .i64 0, .nilFunc]) (t := 73) ?hr ?_; (case hd => rfl); (case hg => rfl); (case hr => first | (go_simp; done) | (go_simp; rfl)); intro gb hg w1 hbox hb; have n0 := Aside0.mk (blk_below HM.out hb); have n1 := Aside0.mk (below_step HB.out hb); have n2 := Aside0.mk hbox; have n3 := Aside0.mk (show w.heap.size ≤ gb by rw [hg]; exact below_size HB.out); have n4 := Aside0.mk (show b ≠ gb by rw [hg]; exact Nat.ne_of_lt (blk_lt HM.out)); clear HM HB; have HM := n0; have HB := n1; have BK := n2; have GE := n3; have NB := n4; clear n0 n1 n2 n3 n4 hb hbox hg; have hcz0 : w1.cell? ⟨gb, 0, none⟩ = some .nilFunc := (blk_cell BK.out 0).trans rfl; have hcz1 : w1.cell? ⟨gb, 1, none⟩ = some (.int .i64 0) := (blk_cell BK.out 1).trans rfl; have hcz2 : w1.cell? ⟨gb, 2, none⟩ = some (.int .i64 0) := (blk_cell BK.out 2).trans rfl; have hcz3 : w1.cell? ⟨gb, 3, none⟩ = some .nilFunc := (blk_cell BK.out 3).trans rfl; have hfz0 := blk_frozen BK.out 0; have hfz1 := blk_frozen BK.out 1; have hfz2 := blk_frozen BK.out 2; have hfz3 := blk_frozen BK.out 3))
      go_roundg 38
      case measure => have := HN.out; omega
      case rel => exact ⟨20, rfl, ⟨by omega⟩, ⟨(obj_far (obj_far (obj_far (obj_far HM.out NB.out) NB.out) NB.out) NB.out)⟩, ⟨below_set (below_set (below_set (below_set HB.out GE.out) GE.out) GE.out) GE.out⟩⟩
    · go_wp2_with (first | ((with_reducible refine gate_lookup rfl ?_); refine map_not rfl _ _ rfl hm hk rfl rfl HM.out _ (form_zero _) (by rfl) ?_) | ((with_reducible refine gate_dst (N := 3) rfl ?_); refine box_event ?hg (N := 3) ?hd (cs := #[.nilFunc, .int .i64 0, .int .i64 0, .nilFunc]) (t := 73) ?hr ?_; (case hd => rfl); (case hg => rfl); (case hr => first | (go_simp; done) | (go_simp; rfl)); intro gb hg w1 hbox hb; have n0 := Aside0.mk (blk_below HM.out hb); have n1 := Aside0.mk (below_step HB.out hb); have n2 := Aside0.mk hbox; have n3 := Aside0.mk (show w.heap.size ≤ gb by rw [hg]; exact below_size HB.out); have n4 := Aside0.mk (show b ≠ gb by rw [hg]; exact Nat.ne_of_lt (blk_lt HM.out)); clear HM HB; have HM := n0; have HB := n1; have BK := n2; have GE := n3; have NB := n4; clear n0 n1 n2 n3 n4 hb hbox hg; have hcz0 : w1.cell? ⟨gb, 0, none⟩ = some .nilFunc := (blk_cell BK.out 0).trans rfl; have hcz1 : w1.cell? ⟨gb, 1, none⟩ = some (.int .i64 0) := (blk_cell BK.out 1).trans rfl; have hcz2 : w1.cell? ⟨gb, 2, none⟩ = some (.int .i64 0) := (blk_cell BK.out 2).trans rfl; have hcz3 : w1.cell? ⟨gb, 3, none⟩ = some .nilFunc := (blk_cell BK.out 3).trans rfl; have hfz0 := blk_frozen BK.out 0; have hfz1 := blk_frozen BK.out 1; have hfz2 := blk_frozen BK.out 2; have hfz3 := blk_frozen BK.out 3) | ((with_reducible refine gate_update rfl ?_); refine map_put rfl _ _ _ (Or.inl rfl) hm hk rfl rfl _ rfl (obj_far (obj_far (obj_far (obj_far HM.out NB.out) NB.out) NB.out) NB.out) (by rfl) ?_; intro w2 hb1 hg1; have HM2 := Aside0.mk hb1; have HB2 := Aside0.mk (RowKit.Below.grown (below_set (below_set (below_set (below_set HB.out GE.out) GE.out) GE.out) GE.out) hg1 (below_size (below_set (below_set (below_set (below_set HB.out GE.out) GE.out) GE.out) GE.out)) (fun k hk => by cases hk; exact GW.out)); clear HM HB hb1 hg1; have HM := HM2; have HB := HB2; clear HM2 HB2))
      go_roundg 37
      case measure => have := HN.out; omega
      case rel => exact ⟨21, rfl, ⟨by omega⟩, ⟨HM.out⟩, HB⟩
    · go_wp2_with (first | ((with_reducible refine gate_lookup rfl ?_); refine map_not rfl _ _ rfl hm hk rfl rfl HM.out _ (form_zero _) (by rfl) ?_) | ((with_reducible refine gate_dst (N := 3) rfl ?_); refine box_event ?hg (N := 3) ?hd (cs := #[.nilFunc, .int .i64 0, .int .i64 0, .nilFunc]) (t := 73) ?hr ?_; (case hd => rfl); (case hg => rfl); (case hr => first | (go_simp; done) | (go_simp; rfl)); intro gb hg w1 hbox hb; have n0 := Aside0.mk (blk_below HM.out hb); have n1 := Aside0.mk (below_step HB.out hb); have n2 := Aside0.mk hbox; have n3 := Aside0.mk (show w.heap.size ≤ gb by rw [hg]; exact below_size HB.out); have n4 := Aside0.mk (show b ≠ gb by rw [hg]; exact Nat.ne_of_lt (blk_lt HM.out)); clear HM HB; have HM := n0; have HB := n1; have BK := n2; have GE := n3; have NB := n4; clear n0 n1 n2 n3 n4 hb hbox hg; have hcz0 : w1.cell? ⟨gb, 0, none⟩ = some .nilFunc := (blk_cell BK.out 0).trans rfl; have hcz1 : w1.cell? ⟨gb, 1, none⟩ = some (.int .i64 0) := (blk_cell BK.out 1).trans rfl; have hcz2 : w1.cell? ⟨gb, 2, none⟩ = some (.int .i64 0) := (blk_cell BK.out 2).trans rfl; have hcz3 : w1.cell? ⟨gb, 3, none⟩ = some .nilFunc := (blk_cell BK.out 3).trans rfl; have hfz0 := blk_frozen BK.out 0; have hfz1 := blk_frozen BK.out 1; have hfz2 := blk_frozen BK.out 2; have hfz3 := blk_frozen BK.out 3) | ((with_reducible refine gate_update rfl ?_); refine map_put rfl _ _ _ (Or.inl rfl) hm hk rfl rfl _ rfl (obj_far (obj_far (obj_far (obj_far HM.out NB.out) NB.out) NB.out) NB.out) (by rfl) ?_; intro w2 hb1 hg1; have HM2 := Aside0.mk hb1; have HB2 := Aside0.mk (RowKit.Below.grown (below_set (below_set (below_set (below_set HB.out GE.out) GE.out) GE.out) GE.out) hg1 (below_size (below_set (below_set (below_set (below_set HB.out GE.out) GE.out) GE.out) GE.out)) (fun k hk => by cases hk; exact GW.out)); clear HM HB hb1 hg1; have HM := HM2; have HB := HB2; clear HM2 HB2))
      go_roundg 36
      case measure => have := HN.out; omega
      case rel => exact ⟨22, rfl, ⟨by omega⟩, ⟨HM.out⟩, HB⟩
    · go_wp2_with (first | ((with_reducible refine gate_lookup rfl ?_); refine map_not rfl _ _ rfl hm hk rfl rfl HM.out _ (form_zero _) (by rfl) ?_) | ((with_reducible refine gate_dst (N := 3) rfl ?_); refine box_event ?hg (N := 3) ?hd (cs := #[.nilFunc, .int .i64 0, .int .i64 0, .nilFunc]) (t := 73) ?hr ?_; (case hd => rfl); (case hg => rfl); (case hr => first | (go_simp; done) | (go_simp; rfl)); intro gb hg w1 hbox hb; have n0 := Aside0.mk (blk_below HM.out hb); have n1 := Aside0.mk (below_step HB.out hb); have n2 := Aside0.mk hbox; have n3 := Aside0.mk (show w.heap.size ≤ gb by rw [hg]; exact below_size HB.out); have n4 := Aside0.mk (show b ≠ gb by rw [hg]; exact Nat.ne_of_lt (blk_lt HM.out)); clear HM HB; have HM := n0; have HB := n1; have BK := n2; have GE := n3; have NB := n4; clear n0 n1 n2 n3 n4 hb hbox hg; have hcz0 : w1.cell? ⟨gb, 0, none⟩ = some .nilFunc := (blk_cell BK.out 0).trans rfl; have hcz1 : w1.cell? ⟨gb, 1, none⟩ = some (.int .i64 0) := (blk_cell BK.out 1).trans rfl; have hcz2 : w1.cell? ⟨gb, 2, none⟩ = some (.int .i64 0) := (blk_cell BK.out 2).trans rfl; have hcz3 : w1.cell? ⟨gb, 3, none⟩ = some .nilFunc := (blk_cell BK.out 3).trans rfl; have hfz0 := blk_frozen BK.out 0; have hfz1 := blk_frozen BK.out 1; have hfz2 := blk_frozen BK.out 2; have hfz3 := blk_frozen BK.out 3) | ((with_reducible refine gate_update rfl ?_); refine map_put rfl _ _ _ (Or.inl rfl) hm hk rfl rfl _ rfl (obj_far (obj_far (obj_far (obj_far HM.out NB.out) NB.out) NB.out) NB.out) (by rfl) ?_; intro w2 hb1 hg1; have HM2 := Aside0.mk hb1; have HB2 := Aside0.mk (RowKit.Below.grown (below_set (below_set (below_set (below_set HB.out GE.out) GE.out) GE.out) GE.out) hg1 (below_size (below_set (below_set (below_set (below_set HB.out GE.out) GE.out) GE.out) GE.out)) (fun k hk => by cases hk; exact GW.out)); clear HM HB hb1 hg1; have HM := HM2; have HB := HB2; clear HM2 HB2))
      go_roundg 35
      case measure => have := HN.out; omega
      case rel => exact ⟨23, rfl, ⟨by omega⟩, ⟨HM.out⟩, HB⟩
    · go_wp2_with (first | ((with_reducible refine gate_lookup rfl ?_); refine map_has rfl _ _ rfl hm hk rfl rfl HM.out 8 (.agg #[.func (.func 72) #[] #[], .int .i64 0, .int .i64 0, .func (.func 71) #[] #[]]) (by rfl) ?_) | ((with_reducible refine gate_dst (N := 3) rfl ?_); refine box_event ?hg (N := 3) ?hd (cs := #[.nilFunc, .int .i64 0, .int .i64 0, .nilFunc]) (t := 73) ?hr ?_; (case hd => rfl); (case hg => rfl); (case hr => first | (go_simp; done) | (go_simp; rfl)); intro gb hg w1 hbox hb; have n0 := Aside0.mk (blk_below HM.out hb); have n1 := Aside0.mk (below_step HB.out hb); have n2 := Aside0.mk hbox; have n3 := Aside0.mk (show w.heap.size ≤ gb by rw [hg]; exact below_size HB.out); have n4 := Aside0.mk (show b ≠ gb by rw [hg]; exact Nat.ne_of_lt (blk_lt HM.out)); clear HM HB; have HM := n0; have HB := n1; have BK := n2; have GE := n3; have NB := n4; clear n0 n1 n2 n3 n4 hb hbox hg; have hcz0 : w1.cell? ⟨gb, 0, none⟩ = some .nilFunc := (blk_cell BK.out 0).trans rfl; have hcz1 : w1.cell? ⟨gb, 1, none⟩ = some (.int .i64 0) := (blk_cell BK.out 1).trans rfl; have hcz2 : w1.cell? ⟨gb, 2, none⟩ = some (.int .i64 0) := (blk_cell BK.out 2).trans rfl; have hcz3 : w1.cell? ⟨gb, 3, none⟩ = some .nilFunc := (blk_cell BK.out 3).trans rfl; have hfz0 := blk_frozen BK.out 0; have hfz1 := blk_frozen BK.out 1; have hfz2 := blk_frozen BK.out 2; have hfz3 := blk_frozen BK.out 3))
      go_roundg 34
      case measure => have := HN.out; omega
      case rel => exact ⟨24, rfl, ⟨by omega⟩, ⟨(obj_far (obj_far (obj_far (obj_far HM.out NB.out) NB.out) NB.out) NB.out)⟩, ⟨below_set (below_set (below_set (below_set HB.out GE.out) GE.out) GE.out) GE.out⟩⟩
    · go_wp2_with (first | ((with_reducible refine gate_lookup rfl ?_); refine map_has rfl _ _ rfl hm hk rfl rfl HM.out 5 (.agg #[.func (.func 75) #[] #[], .int .i64 0, .int .i64 0, .func (.func 71) #[] #[]]) (by rfl) ?_) | ((with_reducible refine gate_dst (N := 3) rfl ?_); refine box_event ?hg (N := 3) ?hd (cs := #[.nilFunc, .int .i64 0, .int .i64 0, .nilFunc]) (t := 73) ?hr ?_; (case hd => rfl); (case hg => rfl); (case hr => first | (go_simp; done) | (go_simp; rfl)); intro gb hg w1 hbox hb; have n0 := Aside0.mk (blk_below HM.out hb); have n1 := Aside0.mk (below_step HB.out hb); have n2 := Aside0.mk hbox; have n3 := Aside0.mk (show w.heap.size ≤ gb by rw [hg]; exact below_size HB.out); have n4 := Aside0.mk (show b ≠ gb by rw [hg]; exact Nat.ne_of_lt (blk_lt HM.out)); clear HM HB; have HM := n0; have HB := n1; have BK := n2; have GE := n3; have NB := n4; clear n0 n1 n2 n3 n4 hb hbox hg; have hcz0 : w1.cell? ⟨gb, 0, none⟩ = some .nilFunc := (blk_cell BK.out 0).trans rfl; have hcz1 : w1.cell? ⟨gb, 1, none⟩ = some (.int .i64 0) := (blk_cell BK.out 1).trans rfl; have hcz2 : w1.cell? ⟨gb, 2, none⟩ = some (.int .i64 0) := (blk_cell BK.out 2).trans rfl; have hcz3 : w1.cell? ⟨gb, 3, none⟩ = some .nilFunc := (blk_cell BK.out 3).trans rfl; have hfz0 := blk_frozen BK.out 0; have hfz1 := blk_frozen BK.out 1; have hfz2 := blk_frozen BK.out 2; have hfz3 := blk_frozen BK.out 3))
      go_roundg 33
      case measure => have := HN.out; omega
      case rel => exact ⟨25, rfl, ⟨by omega⟩, ⟨(obj_far (obj_far (obj_far (obj_far HM.out NB.out) NB.out) NB.out) NB.out)⟩, ⟨below_set (below_set (below_set (below_set HB.out GE.out) GE.out) GE.out) GE.out⟩⟩
    · go_wp2_with (first | ((with_reducible refine gate_lookup rfl ?_); refine map_has rfl _ _ rfl hm hk rfl rfl HM.out 6 (.agg #[.func (.func 72) #[] #[], .int .i64 0, .int .i64 2048, .func (.func 76) #[] #[]]) (by rfl) ?_) | ((with_reducible refine gate_dst (N := 3) rfl ?_); refine box_event ?hg (N := 3) ?hd (cs := #[.nilFunc, .int .i64 0, .int .i64 0, .nilFunc]) (t := 73) ?hr ?_; (case hd => rfl); (case hg => rfl); (case hr => first | (go_simp; done) | (go_simp; rfl)); intro gb hg w1 hbox hb; have n0 := Aside0.mk (blk_below HM.out hb); have n1 := Aside0.mk (below_step HB.out hb); have n2 := Aside0.mk hbox; have n3 := Aside0.mk (show w.heap.size ≤ gb by rw [hg]; exact below_size HB.out); have n4 := Aside0.mk (show b ≠ gb by rw [hg]; exact Nat.ne_of_lt (blk_lt HM.out)); clear HM HB; have HM := n0; have HB := n1; have BK := n2; have GE := n3; have NB := n4; clear n0 n1 n2 n3 n4 hb hbox hg; have hcz0 : w1.cell? ⟨gb, 0, none⟩ = some .nilFunc := (blk_cell BK.out 0).trans rfl; have hcz1 : w1.cell? ⟨gb, 1, none⟩ = some (.int .i64 0) := (blk_cell BK.out 1).trans rfl; have hcz2 : w1.cell? ⟨gb, 2, none⟩ = some (.int .i64 0) := (blk_cell BK.out 2).trans rfl; have hcz3 : w1.cell? ⟨gb, 3, none⟩ = some .nilFunc := (blk_cell BK.out 3).trans rfl; have hfz0 := blk_frozen BK.out 0; have hfz1 := blk_frozen BK.out 1; have hfz2 := blk_frozen BK.out 2; have hfz3 := blk_frozen BK.out 3))
      go_roundg 32
      case measure => have := HN.out; omega
      case rel => exact ⟨26, rfl, ⟨by omega⟩, ⟨(obj_far (obj_far (obj_far (obj_far HM.out NB.out) NB.out) NB.out) NB.out)⟩, ⟨below_set (below_set (below_set (below_set HB.out GE.out) GE.out) GE.out) GE.out⟩⟩
    · go_wp2_with (first | ((with_reducible refine gate_lookup rfl ?_); refine map_not rfl _ _ rfl hm hk rfl rfl HM.out _ (form_zero _) (by rfl) ?_) | ((with_reducible refine gate_dst (N := 3) rfl ?_); refine box_event ?hg (N := 3) ?hd (cs := #[.nilFunc, .int .i64 0, .int .i64 0, .nilFunc]) (t := 73) ?hr ?_; (case hd => rfl); (case hg => rfl); (case hr => first | (go_simp; done) | (go_simp; rfl)); intro gb hg w1 hbox hb; have n0 := Aside0.mk (blk_below HM.out hb); have n1 := Aside0.mk (below_step HB.out hb); have n2 := Aside0.mk hbox; have n3 := Aside0.mk (show w.heap.size ≤ gb by rw [hg]; exact below_size HB.out); have n4 := Aside0.mk (show b ≠ gb by rw [hg]; exact Nat.ne_of_lt (blk_lt HM.out)); clear HM HB; have HM := n0; have HB := n1; have BK := n2; have GE := n3; have NB := n4; clear n0 n1 n2 n3 n4 hb hbox hg; have hcz0 : w1.cell? ⟨gb, 0, none⟩ = some .nilFunc := (blk_cell BK.out 0).trans rfl; have hcz1 : w1.cell? ⟨gb, 1, none⟩ = some (.int .i64 0) := (blk_cell BK.out 1).trans rfl; have hcz2 : w1.cell? ⟨gb, 2, none⟩ = some (.int .i64 0) := (blk_cell BK.out 2).trans rfl; have hcz3 : w1.cell? ⟨gb, 3, none⟩ = some .nilFunc := (blk_cell BK.out 3).trans rfl; have hfz0 := blk_frozen BK.out 0; have hfz1 := blk_frozen BK.out 1; have hfz2 := blk_frozen BK.out 2; have hfz3 := blk_frozen BK.out 3) | ((with_reducible refine gate_update rfl ?_); refine map_put rfl _ _ _ (Or.inl rfl) hm hk rfl rfl _ rfl (obj_far (obj_far (obj_far (obj_far HM.out NB.out) NB.out) NB.out) NB.out) (by rfl) ?_; intro w2 hb1 hg1; have HM2 := Aside0.mk hb1; have HB2 := Aside0.mk (RowKit.Below.grown (below_set (below_set (below_set (below_set HB.out GE.out) GE.out) GE.out) GE.out) hg1 (below_size (below_set (below_set (below_set (below_set HB.out GE.out) GE.out) GE.out) GE.out)) (fun k hk => by cases hk; exact GW.out)); clear HM HB hb1 hg1; have HM := HM2; have HB := HB2; clear HM2 HB2))
      go_roundg 31
      case measure => have := HN.out; omega
      case rel => exact ⟨27, rfl, ⟨by omega⟩, ⟨HM.out⟩, HB⟩
    · go_wp2_with (first | ((with_reducible refine gate_lookup rfl ?_); refine map_not rfl _ _ rfl hm hk rfl rfl HM.out _ (form_zero _) (by rfl) ?_) | ((with_reducible refine gate_dst (N := 3) rfl ?_); refine box_event ?hg (N := 3) ?hd (cs := #[.nilFunc, .int .i64 0, .int .i64 0, .nilFunc]) (t := 73) ?hr ?_; (case hd => rfl); (case hg => rfl); (case hr => first | (go_simp; done) | (go_simp; rfl)); intro gb hg w1 hbox hb; have n0 := Aside0.mk (blk_below HM.out hb); have n1 := Aside0.mk (below_step HB.out hb); have n2 := Aside0.mk hbox; have n3 := Aside0.mk (show w.heap.size ≤ gb by rw [hg]; exact below_size HB.out); have n4 := Aside0.mk (show b ≠ gb by rw [hg]; exact Nat.ne_of_lt (blk_lt HM.out)); clear HM HB; have HM := n0; have HB := n1; have BK := n2; have GE := n3; have NB := n4; clear n0 n1 n2 n3 n4 hb hbox hg; have hcz0 : w1.cell? ⟨gb, 0, none⟩ = some .nilFunc := (blk_cell BK.out 0).trans rfl; have hcz1 : w1.cell? ⟨gb, 1, none⟩ = some (.int .i64 0) := (blk_cell BK.out 1).trans rfl; have hcz2 : w1.cell? ⟨gb, 2, none⟩ = some (.int .i64 0) := (blk_cell BK.out 2).trans rfl; have hcz3 : w1.cell? ⟨gb, 3, none⟩ = some .nilFunc := (blk_cell BK.out 3).trans rfl; have hfz0 := blk_frozen BK.out 0; have hfz1 := blk_frozen BK.out 1; have hfz2 := blk_frozen BK.out 2; have hfz3 := blk_frozen BK.out 3))
      go_roundg 30
      case measure => have := HN.out; omega
      case rel => exact ⟨28, rfl, ⟨by omega⟩, ⟨(obj_far (obj_far (obj_far (obj_far HM.out NB.out) NB.out) NB.out) NB.out)⟩, ⟨below_set (below_set (below_set (below_set HB.out GE.out) GE.out) GE.out) GE.out⟩⟩
    · go_wp2_with (first | ((with_reducible refine gate_lookup rfl ?_); refine map_not rfl _ _ rfl hm hk rfl rfl HM.out _ (form_zero _) (by rfl) ?_) | ((with_reducible refine gate_dst (N := 3) rfl ?_); refine box_event ?hg (N := 3) ?hd (cs := #[.nilFunc, .int .i64 0, .int .i64 0, .nilFunc]) (t := 73) ?hr ?_; (case hd => rfl); (case hg => rfl); (case hr => first | (go_simp; done) | (go_simp; rfl)); intro gb hg w1 hbox hb; have n0 := Aside0.mk (blk_below HM.out hb); have n1 := Aside0.mk (below_step HB.out hb); have n2 := Aside0.mk hbox; have n3 := Aside0.mk (show w.heap.size ≤ gb by rw [hg]; exact below_size HB.out); have n4 := Aside0.mk (show b ≠ gb by rw [hg]; exact Nat.ne_of_lt (blk_lt HM.out)); clear HM HB; have HM := n0; have HB := n1; have BK := n2; have GE := n3; have NB := n4; clear n0 n1 n2 n3 n4 hb hbox hg; have hcz0 : w1.cell? ⟨gb, 0, none⟩ = some .nilFunc := (blk_cell BK.out 0).trans rfl; have hcz1 : w1.cell? ⟨gb, 1, none⟩ = some (.int .i64 0) := (blk_cell BK.out 1).trans rfl; have hcz2 : w1.cell? ⟨gb, 2, none⟩ = some (.int .i64 0) := (blk_cell BK.out 2).trans rfl; have hcz3 : w1.cell? ⟨gb, 3, none⟩ = some .nilFunc := (blk_cell BK.out 3).trans rfl; have hfz0 := blk_frozen BK.out 0; have hfz1 := blk_frozen BK.out 1; have hfz2 := blk_frozen BK.out 2; have hfz3 := blk_frozen BK.out 3))
      go_roundg 29
      case measure => have := HN.out; omega
      case rel => exact ⟨29, rfl, ⟨by omega⟩, ⟨(obj_far (obj_far (obj_far (obj_far HM.out NB.out) NB.out) NB.out) NB.out)⟩, ⟨below_set (below_set (below_set (below_set HB.out GE.out) GE.out) GE.out) GE.out⟩⟩
    · go_wp2_with (first | ((with_reducible refine gate_lookup rfl ?_); refine map_not rfl _ _ rfl hm hk rfl rfl HM.out _ (form_zero _) (by rfl) ?_) | ((with_reducible refine gate_dst (N := 3) rfl ?_); refine box_event ?hg (N := 3) ?hd (cs := #[.nilFunc, .int .i64 0, .int .i64 0, .nilFunc]) (t := 73) ?hr ?_; (case hd => rfl); (case hg => rfl); (case hr => first | (go_simp; done) | (go_simp; rfl)); intro gb hg w1 hbox hb; have n0 := Aside0.mk (blk_below HM.out hb); have n1 := Aside0.mk (below_step HB.out hb); have n2 := Aside0.mk hbox; have n3 := Aside0.mk (show w.heap.size ≤ gb by rw [hg]; exact below_size HB.out); have n4 := Aside0.mk (show b ≠ gb by rw [hg]; exact Nat.ne_of_lt (blk_lt HM.out)); clear HM HB; have HM := n0; have HB := n1; have BK := n2; have GE := n3; have NB := n4; clear n0 n1 n2 n3 n4 hb hbox hg; have hcz0 : w1.cell? ⟨gb, 0, none⟩ = some .nilFunc := (blk_cell BK.out 0).trans rfl; have hcz1 : w1.cell? ⟨gb, 1, none⟩ = some (.int .i64 0) := (blk_cell BK.out 1).trans rfl; have hcz2 : w1.cell? ⟨gb, 2, none⟩ = some (.int .i64 0) := (blk_cell BK.out 2).trans rfl; have hcz3 : w1.cell? ⟨gb, 3, none⟩ = some .nilFunc := (blk_cell BK.out 3).trans rfl; have hfz0 := blk_frozen BK.out 0; have hfz1 := blk_frozen BK.out 1; have hfz2 := blk_frozen BK.out 2; have hfz3 := blk_frozen BK.out 3))
      go_roundg 28
      case measure => have := HN.out; omega
      case rel => exact ⟨30, rfl, ⟨by omega⟩, ⟨(obj_far (obj_far (obj_far (obj_far HM.out NB.out) NB.out) NB.out) NB.out)⟩, ⟨below_set (below_set (below_set (below_set HB.out GE.out) GE.out) GE.out) GE.out⟩⟩
    · go_wp2_with (first | ((with_reducible refine gate_lookup rfl ?_); refine map_not rfl _ _ rfl hm hk rfl rfl HM.out _ (form_zero _) (by rfl) ?_) | ((with_reducible refine gate_dst (N := 3) rfl ?_); refine box_event ?hg (N := 3) ?hd (cs := #[.nilFunc, .int .i64 0, .int .i64 0, .nilFunc]) (t := 73) ?hr ?_; (case hd => rfl); (case hg => rfl); (case hr => first | (go_simp; done) | (go_simp; rfl)); intro gb hg w1 hbox hb; have n0 := Aside0.mk (blk_below HM.out hb); have n1 := Aside0.mk (below_step HB.out hb); have n2 := Aside0.mk hbox; have n3 := Aside0.mk (show w.heap.size ≤ gb by rw [hg]; exact below_size HB.out); have n4 := Aside0.mk (show b ≠ gb by rw [hg]; exact Nat.ne_of_lt (blk_lt HM.out)); clear HM HB; have HM := n0; have HB := n1; have BK := n2; have GE := n3; have NB := n4; clear n0 n1 n2 n3 n4 hb hbox hg; have hcz0 : w1.cell? ⟨gb, 0, none⟩ = some .nilFunc := (blk_cell BK.out 0).trans rfl; have hcz1 : w1.cell? ⟨gb, 1, none⟩ = some (.int .i64 0) := (blk_cell BK.out 1).trans rfl; have hcz2 : w1.cell? ⟨gb, 2, none⟩ = some (.int .i64 0) := (blk_cell BK.out 2).trans rfl; have hcz3 : w1.cell? ⟨gb, 3, none⟩ = some .nilFunc := (blk_cell BK.out 3).trans rfl; have hfz0 := blk_frozen BK.out 0; have hfz1 := blk_frozen BK.out 1; have hfz2 := blk_frozen BK.out 2; have hfz3 := blk_frozen BK.out 3) | ((with_reducible refine gate_update rfl ?_); refine map_put rfl _ _ _ (Or.inl rfl) hm hk rfl rfl _ rfl (obj_far (obj_far (obj_far (obj_far HM.out NB.out) NB.out) NB.out) NB.out) (by rfl) ?_; intro w2 hb1 hg1; have HM2 := Aside0.mk hb1; have HB2 := Aside0.mk (RowKit.Below.grown (below_set (below_set (below_set (below_set HB.out GE.out) GE.out) GE.out) GE.out) hg1 (below_size (below_set (below_set (below_set (below_set HB.out GE.out) GE.out) GE.out) GE.out)) (fun k hk => by cases hk; exact GW.out)); clear HM HB hb1 hg1; have HM := HM2; have HB := HB2; clear HM2 HB2))
      go_roundg 27
      case measure => have := HN.out; omega
      case rel => exact ⟨31, rfl, ⟨by omega⟩, ⟨HM.out⟩, HB⟩
    · go_wp2_with (first | ((with_reducible refine gate_lookup rfl ?_); refine map_not rfl _ _ rfl hm hk rfl rfl HM.out _ (form_zero _) (by rfl) ?_) | ((with_reducible refine gate_dst (N := 3) rfl ?_); refine box_event ?hg (N := 3) ?hd (cs := #[.nilFunc, .int .i64 0, .int .i64 0, .nilFunc]) (t := 73) ?hr ?_; (case hd => rfl); (case hg => rfl); (case hr => first | (go_simp; done) | (go_simp; rfl)); intro gb hg w1 hbox hb; have n0 := Aside0.mk (blk_below HM.out hb); have n1 := Aside0.mk (below_step HB.out hb); have n2 := Aside0.mk hbox; have n3 := Aside0.mk (show w.heap.size ≤ gb by rw [hg]; exact below_size HB.out); have n4 := Aside0.mk (show b ≠ gb by rw [hg]; exact Nat.ne_of_lt (blk_lt HM.out)); clear HM HB; have HM := n0; have HB := n1; have BK := n2; have GE := n3; have NB := n4; clear n0 n1 n2 n3 n4 hb hbox hg; have hcz0 : w1.cell? ⟨gb, 0, none⟩ = some .nilFunc := (blk_cell BK.out 0).trans rfl; have hcz1 : w1.cell? ⟨gb, 1, none⟩ = some (.int .i64 0) := (blk_cell BK.out 1).trans rfl; have hcz2 : w1.cell? ⟨gb, 2, none⟩ = some (.int .i64 0) := (blk_cell BK.out 2).trans rfl; have hcz3 : w1.cell? ⟨gb, 3, none⟩ = some .nilFunc := (blk_cell BK.out 3).trans rfl; have hfz0 := blk_frozen BK.out 0; have hfz1 := blk_frozen BK.out 1; have hfz2 := blk_frozen BK.out 2; have hfz3 := blk_frozen BK.out 3) | ((with_reducible refine gate_update rfl ?_); refine map_put rfl _ _ _ (Or.inl rfl) hm hk rfl rfl _ rfl (obj_far (obj_far (obj_far (obj_far HM.out NB.out) NB.out) NB.out) NB.out) (by rfl) ?_; intro w2 hb1 hg1; have HM2 := Aside0.mk hb1; have HB2 := Aside0.mk (RowKit.Below.grown (below_set (below_set (below_set (below_set HB.out GE.out) GE.out) GE.out) GE.out) hg1 (below_size (below_set (below_set (below_set (below_set HB.out GE.out) GE.out) GE.out) GE.out)) (fun k hk => by cases hk; exact GW.out)); clear HM HB hb1 hg1; have HM := HM2; have HB := HB2; clear HM2 HB2))
      go_roundg 26
      case measure => have := HN.out; omega
      case rel => exact ⟨32, rfl, ⟨by omega⟩, ⟨HM.out⟩, HB⟩
    · go_wp2_with (first | ((with_reducible refine gate_lookup rfl ?_); refine map_not rfl _ _ rfl hm hk rfl rfl HM.out _ (form_zero _) (by rfl) ?_) | ((with_reducible refine gate_dst (N := 3) rfl ?_); refine box_event ?hg (N := 3) ?hd (cs := #[.nilFunc, .int .i64 0, .int .i64 0, .nilFunc]) (t := 73) ?hr ?_; (case hd => rfl); (case hg => rfl); (case hr => first | (go_simp; done) | (go_simp; rfl)); intro gb hg w1 hbox hb; have n0 := Aside0.mk (blk_below HM.out hb); have n1 := Aside0.mk (below_step HB.out hb); have n2 := Aside0.mk hbox; have n3 := Aside0.mk (show w.heap.size ≤ gb by rw [hg]; exact below_size HB.out); have n4 := Aside0.mk (show b ≠ gb by rw [hg]; exact Nat.ne_of_lt (blk_lt HM.out)); clear HM HB; have HM := n0; have HB := n1; have BK := n2; have GE := n3; have NB := n4; clear n0 n1 n2 n3 n4 hb hbox hg; have hcz0 : w1.cell? ⟨gb, 0, none⟩ = some .nilFunc := (blk_cell BK.out 0).trans rfl; have hcz1 : w1.cell? ⟨gb, 1, none⟩ = some (.int .i64 0) := (blk_cell BK.out 1).trans rfl; have hcz2 : w1.cell? ⟨gb, 2, none⟩ = some (.int .i64 0) := (blk_cell BK.out 2).trans rfl; have hcz3 : w1.cell? ⟨gb, 3, none⟩ = some .nilFunc := (blk_cell BK.out 3).trans rfl; have hfz0 := blk_frozen BK.out 0; have hfz1 := blk_frozen BK.out 1; have hfz2 := blk_frozen BK.out 2; have hfz3 := blk_frozen BK.out 3) | ((with_reducible refine gate_update rfl ?_); refine map_put rfl _ _ _ (Or.inl rfl) hm hk rfl rfl _ rfl (obj_far (obj_far (obj_far (obj_far HM.out NB.out) NB.out) NB.out) NB.out) (by rfl) ?_; intro w2 hb1 hg1; have HM2 := Aside0.mk hb1; have HB2 := Aside0.mk (RowKit.Below.grown (below_set (below_set (below_set (below_set HB.out GE.out) GE.out) GE.out) GE.out) hg1 (below_size (below_set (below_set (below_set (below_set HB.out GE.out) GE.out) GE.out) GE.out)) (fun k hk => by cases hk; exact GW.out)); clear HM HB hb1 hg1; have HM := HM2; have HB := HB2; clear HM2 HB2))
      go_roundg 25
      case measure => have := HN.out; omega
      case rel => exact ⟨33, rfl, ⟨by omega⟩, ⟨HM.out⟩, HB⟩
    · go_wp2_with (first | ((with_reducible refine gate_lookup rfl ?_); refine map_not rfl _ _ rfl hm hk rfl rfl HM.out _ (form_zero _) (by rfl) ?_) | ((with_reducible refine gate_dst (N := 3) rfl ?_); refine box_event ?hg (N := 3) ?hd (cs := #[.nilFunc, .int .i64 0, .int .i64 0, .nilFunc]) (t := 73) ?hr ?_; (case hd => rfl); (case hg => rfl); (case hr => first | (go_simp; done) | (go_simp; rfl)); intro gb hg w1 hbox hb; have n0 := Aside0.mk (blk_below HM.out hb); have n1 := Aside0.mk (below_step HB.out hb); have n2 := Aside0.mk hbox; have n3 := Aside0.mk (show w.heap.size ≤ gb by rw [hg]; exact below_size HB.out); have n4 := Aside0.mk (show b ≠ gb by rw [hg]; exact Nat.ne_of_lt (blk_lt HM.out)); clear HM HB; have HM := n0; have HB := n1; have BK := n2; have GE := n3; have NB := n4; clear n0 n1 n2 n3 n4 hb hbox hg; have hcz0 : w1.cell? ⟨gb, 0, none⟩ = some .nilFunc := (blk_cell BK.out 0).trans rfl; have hcz1 : w1.cell? ⟨gb, 1, none⟩ = some (.int .i64 0) := (blk_cell BK.out 1).trans rfl; have hcz2 : w1.cell? ⟨gb, 2, none⟩ = some (.int .i64 0) := (blk_cell BK.out 2).trans rfl; have hcz3 : w1.cell? ⟨gb, 3, none⟩ = some .nilFunc := (blk_cell BK.out 3).trans rfl; have hfz0 := blk_frozen BK.out 0; have hfz1 := blk_frozen BK.out 1; have hfz2 := blk_frozen BK.out 2; have hfz3 := blk_frozen BK.out 3) | ((with_reducible refine gate_update rfl ?_); refine map_put rfl _ _ _ (Or.inl rfl) hm hk rfl rfl _ rfl (obj_far (obj_far (obj_far (obj_far HM.out NB.out) NB.out) NB.out) NB.out) (by rfl) ?_; intro w2 hb1 hg1; have HM2 := Aside0.mk hb1; have HB2 := Aside0.mk (RowKit.Below.grown (below_set (below_set (below_set (below_set HB.out GE.out) GE.out) GE.out) GE.out) hg1 (below_size (below_set (below_set (below_set (below_set HB.out GE.out) GE.out) GE.out) GE.out)) (fun k hk => by cases hk; exact GW.out)); clear HM HB hb1 hg1; have HM := HM2; have HB := HB2; clear HM2 HB2))
      go_roundg 24
      case measure => have := HN.out; omega
      case rel => exact ⟨34, rfl, ⟨by omega⟩, ⟨HM.out⟩, HB⟩
    · go_wp2_with (first | ((with_reducible refine gate_lookup rfl ?_); refine map_not rfl _ _ rfl hm hk rfl rfl HM.out _ (form_zero _) (by rfl) ?_) | ((with_reducible refine gate_dst (N := 3) rfl ?_); refine box_event ?hg (N := 3) ?hd (cs := #[.nilFunc, .int .i64 0, .int .i64 0, .nilFunc]) (t := 73) ?hr ?_; (case hd => rfl); (case hg => rfl); (case hr => first | (go_simp; done) | (go_simp; rfl)); intro gb hg w1 hbox hb; have n0 := Aside0.mk (blk_below HM.out hb); have n1 := Aside0.mk (below_step HB.out hb); have n2 := Aside0.mk hbox; have n3 := Aside0.mk (show w.heap.size ≤ gb by rw [hg]; exact below_size HB.out); have n4 := Aside0.mk (show b ≠ gb by rw [hg]; exact Nat.ne_of_lt (blk_lt HM.out)); clear HM HB; have HM := n0; have HB := n1; have BK := n2; have GE := n3; have NB := n4; clear n0 n1 n2 n3 n4 hb hbox hg; have hcz0 : w1.cell? ⟨gb, 0, none⟩ = some .nilFunc := (blk_cell BK.out 0).trans rfl; have hcz1 : w1.cell? ⟨gb, 1, none⟩ = some (.int .i64 0) := (blk_cell BK.out 1).trans rfl; have hcz2 : w1.cell? ⟨gb, 2, none⟩ = some (.int .i64 0) := (blk_cell BK.out 2).trans rfl; have hcz3 : w1.cell? ⟨gb, 3, none⟩ = some .nilFunc := (blk_cell BK.out 3).trans rfl; have hfz0 := blk_frozen BK.out 0; have hfz1 := blk_frozen BK.out 1; have hfz2 := blk_frozen BK.out 2; have hfz3 := blk_frozen BK.out 3) | ((with_reducible refine gate_update rfl ?_); refine map_put rfl _ _ _ (Or.inl rfl) hm hk rfl rfl _ rfl (obj_far (obj_far (obj_far (obj_far HM.out NB.out) NB.out) NB.out) NB.out) (by rfl) ?_; intro w2 hb1 hg1; have HM2 := Aside0.mk hb1; have HB2 := Aside0.mk (RowKit.Below.grown (below_set (below_set (below_set (below_set HB.out GE.out) GE.out) GE.out) GE.out) hg1 (below_size (below_set (below_set (below_set (below_set HB.out GE.out) GE.out) GE.out) GE.out)) (fun k hk => by cases hk; exact GW.out)); clear HM HB hb1 hg1; have HM := HM2; have HB := HB2; clear HM2 HB2))
      go_roundg 23
      case measure => have := HN.out; omega
      case rel => exact ⟨35, rfl, ⟨by omega⟩, ⟨HM.out⟩, HB⟩
    · go_wp2_with (first | ((with_reducible refine gate_lookup rfl ?_); refine map_not rfl _ _ rfl hm hk rfl rfl HM.out _ (form_zero _) (by rfl) ?_) | ((with_reducible refine gate_dst (N := 3) rfl ?_); refine box_event ?hg (N := 3) ?hd (cs := #[.nilFunc, .int .i64 0, .int .i64 0, .nilFunc]) (t := 73) ?hr ?_; (case hd => rfl); (case hg => rfl); (case hr => first | (go_simp; done) | (go_simp; rfl)); intro gb hg w1 hbox hb; have n0 := Aside0.mk (blk_below HM.out hb); have n1 := Aside0.mk (below_step HB.out hb); have n2 := Aside0.mk hbox; have n3 := Aside0.mk (show w.heap.size ≤ gb by rw [hg]; exact below_size HB.out); have n4 := Aside0.mk (show b ≠ gb by rw [hg]; exact Nat.ne_of_lt (blk_lt HM.out)); clear HM HB; have HM := n0; have HB := n1; have BK := n2; have GE := n3; have NB := n4; clear n0 n1 n2 n3 n4 hb hbox hg; have hcz0 : w1.cell? ⟨gb, 0, none⟩ = some .nilFunc := (blk_cell BK.out 0).trans rfl; have hcz1 : w1.cell? ⟨gb, 1, none⟩ = some (.int .i64 0) := (blk_cell BK.out 1).trans rfl; have hcz2 : w1.cell? ⟨gb, 2, none⟩ = some (.int .i64 0) := (blk_cell BK.out 2).trans rfl; have hcz3 : w1.cell? ⟨gb, 3, none⟩ = some .nilFunc := (blk_cell BK.out 3).trans rfl; have hfz0 := blk_frozen BK.out 0; have hfz1 := blk_frozen BK.out 1; have hfz2 := blk_frozen BK.out 2; have hfz3 := blk_frozen BK.out 3) | ((with_reducible refine gate_update rfl ?_); refine map_put rfl _ _ _ (Or.inl rfl) hm hk rfl rfl _ rfl (obj_far (obj_far (obj_far (obj_far HM.out NB.out) NB.out) NB.out) NB.out) (by rfl) ?_; intro w2 hb1 hg1; have HM2 := Aside0.mk hb1; have HB2 := Aside0.mk (RowKit.Below.grown (below_set (below_set (below_set (below_set HB.out GE.out) GE.out) GE.out) GE.out) hg1 (below_size (below_set (below_set (below_set (below_set HB.out GE.out) GE.out) GE.out) GE.out)) (fun k hk => by cases hk; exact GW.out)); clear HM HB hb1 hg1; have HM := HM2; have HB := HB2; clear HM2 HB2))
      go_roundg 22
      case measure => have := HN.out; omega
      case rel => exact ⟨36, rfl, ⟨by omega⟩, ⟨HM.out⟩, HB⟩
    · go_wp2_with (first | ((with_reducible refine gate_lookup rfl ?_); refine map_not rfl _ _ rfl hm hk rfl rfl HM.out _ (form_zero _) (by rfl) ?_) | ((with_reducible refine gate_dst (N := 3) rfl ?_); refine box_event ?hg (N := 3) ?hd (cs := #[.nilFunc, .int .i64 0, .int .i64 0, .nilFunc]) (t := 73) ?hr ?_; (case hd => rfl); (case hg => rfl); (case hr => first | (go_simp; done) | (go_simp; rfl)); intro gb hg w1 hbox hb; have n0 := Aside0.mk (blk_below HM.out hb); have n1 := Aside0.mk (below_step HB.out hb); have n2 := Aside0.mk hbox; have n3 := Aside0.mk (show w.heap.size ≤ gb by rw [hg]; exact below_size HB.out); have n4 := Aside0.mk (show b ≠ gb by rw [hg]; exact Nat.ne_of_lt (blk_lt HM.out)); clear HM HB; have HM := n0; have HB := n1; have BK := n2; have GE := n3; have NB := n4; clear n0 n1 n2 n3 n4 hb hbox hg; have hcz0 : w1.cell? ⟨gb, 0, none⟩ = some .nilFunc := (blk_cell BK.out 0).trans rfl; have hcz1 : w1.cell? ⟨gb, 1, none⟩ = some (.int .i64 0) := (blk_cell BK.out 1).trans rfl; have hcz2 : w1.cell? ⟨gb, 2, none⟩ = some (.int .i64 0) := (blk_cell BK.out 2).trans rfl; have hcz3 : w1.cell? ⟨gb, 3, none⟩ = some .nilFunc := (blk_cell BK.out 3).trans rfl; have hfz0 := blk_frozen BK.out 0; have hfz1 := blk_frozen BK.out 1; have hfz2 := blk_frozen BK.out 2; have hfz3 := blk_frozen BK.out 3) | ((with_reducible refine gate_update rfl ?_); refine map_put rfl _ _ _ (Or.inl rfl) hm hk rfl rfl _ rfl (obj_far (obj_far (obj_far (obj_far HM.out NB.out) NB.out) NB.out) NB.out) (by rfl) ?_; intro w2 hb1 hg1; have HM2 := Aside0.mk hb1; have HB2 := Aside0.mk (RowKit.Below.grown (below_set (below_set (below_set (below_set HB.out GE.out) GE.out) GE.out) GE.out) hg1 (below_size (below_set (below_set (below_set (below_set HB.out GE.out) GE.out) GE.out) GE.out)) (fun k hk => by cases hk; exact GW.out)); clear HM HB hb1 hg1; have HM := HM2; have HB := HB2; clear HM2 HB2))
      go_roundg 21
      case measure => have := HN.out; omega
      case rel => exact ⟨37, rfl, ⟨by omega⟩, ⟨HM.out⟩, HB⟩
    · go_wp2_with (first | ((with_reducible refine gate_lookup rfl ?_); refine map_not rfl _ _ rfl hm hk rfl rfl HM.out _ (form_zero _) (by rfl) ?_) | ((with_reducible refine gate_dst (N := 3) rfl ?_); refine box_event ?hg (N := 3) ?hd (cs := #[.nilFunc, .int .i64 0, .int .i64 0, .nilFunc]) (t := 73) ?hr ?_; (case hd => rfl); (case hg => rfl); (case hr => first | (go_simp; done) | (go_simp; rfl)); intro gb hg w1 hbox hb; have n0 := Aside0.mk (blk_below HM.out hb); have n1 := Aside0.mk (below_step HB.out hb); have n2 := Aside0.mk hbox; have n3 := Aside0.mk (show w.heap.size ≤ gb by rw [hg]; exact below_size HB.out); have n4 := Aside0.mk (show b ≠ gb by rw [hg]; exact Nat.ne_of_lt (blk_lt HM.out)); clear HM HB; have HM := n0; have HB := n1; have BK := n2; have GE := n3; have NB := n4; clear n0 n1 n2 n3 n4 hb hbox hg; have hcz0 : w1.cell? ⟨gb, 0, none⟩ = some .nilFunc := (blk_cell BK.out 0).trans rfl; have hcz1 : w1.cell? ⟨gb, 1, none⟩ = some (.int .i64 0) := (blk_cell BK.out 1).trans rfl; have hcz2 : w1.cell? ⟨gb, 2, none⟩ = some (.int .i64 0) := (blk_cell BK.out 2).trans rfl; have hcz3 : w1.cell? ⟨gb, 3, none⟩ = some .nilFunc := (blk_cell BK.out 3).trans rfl; have hfz0 := blk_frozen BK.out 0; have hfz1 := blk_frozen BK.out 1; have hfz2 := blk_frozen BK.out 2; have hfz3 := blk_frozen BK.out 3) | ((with_reducible refine gate_update rfl ?_); refine map_put rfl _ _ _ (Or.inl rfl) hm hk rfl rfl _ rfl (obj_far (obj_far (obj_far (obj_far HM.out NB.out) NB.out) NB.out) NB.out) (by rfl) ?_; intro w2 hb1 hg1; have HM2 := Aside0.mk hb1; have HB2 := Aside0.mk (RowKit.Below.grown (below_set (below_set (below_set (below_set HB.out GE.out) GE.out) GE.out) GE.out) hg1 (below_size (below_set (below_set (below_set (below_set HB.out GE.out) GE.out) GE.out) GE.out)) (fun k hk => by cases hk; exact GW.out)); clear HM HB hb1 hg1; have HM := HM2; have HB := HB2; clear HM2 HB2))
      go_roundg 20
      case measure => have := HN.out; omega
      case rel => exact ⟨38, rfl, ⟨by omega⟩, ⟨HM.out⟩, HB⟩
    · go_wp2_with (first | ((with_reducible refine gate_lookup rfl ?_); refine map_not rfl _ _ rfl hm hk rfl rfl HM.out _ (form_zero _) (by rfl) ?_) | ((with_reducible refine gate_dst (N := 3) rfl ?_); refine box_event ?hg (N := 3) ?hd (cs := #[.nilFunc, .int .i64 0, .int .i64 0, .nilFunc]) (t := 73) ?hr ?_; (case hd => rfl); (case hg => rfl); (case hr => first | (go_simp; done) | (go_simp; rfl)); intro gb hg w1 hbox hb; have n0 := Aside0.mk (blk_below HM.out hb); have n1 := Aside0.mk (below_step HB.out hb); have n2 := Aside0.mk hbox; have n3 := Aside0.mk (show w.heap.size ≤ gb by rw [hg]; exact below_size HB.out); have n4 := Aside0.mk (show b ≠ gb by rw [hg]; exact Nat.ne_of_lt (blk_lt HM.out)); clear HM HB; have HM := n0; have HB := n1; have BK := n2; have GE := n3; have NB := n4; clear n0 n1 n2 n3 n4 hb hbox hg; have hcz0 : w1.cell? ⟨gb, 0, none⟩ = some .nilFunc := (blk_cell BK.out 0).trans rfl; have hcz1 : w1.cell? ⟨gb, 1, none⟩ = some (.int .i64 0) := (blk_cell BK.out 1).trans rfl; have hcz2 : w1.cell? ⟨gb, 2, none⟩ = some (.int .i64 0) := (blk_cell BK.out 2).trans rfl; have hcz3 : w1.cell? ⟨gb, 3, none⟩ = some .nilFunc := (blk_cell BK.out 3).trans rfl; have hfz0 := blk_frozen BK.out 0; have hfz1 := blk_frozen BK.out 1; have hfz2 := blk_frozen BK.out 2; have hfz3 := blk_frozen BK.out 3) | ((with_reducible refine gate_update rfl ?_); refine map_put rfl _ _ _ (Or.inl rfl) hm hk rfl rfl _ rfl (obj_far (obj_far (obj_far (obj_far HM.out NB.out) NB.out) NB.out) NB.out) (by rfl) ?_; intro w2 hb1 hg1; have HM2 := Aside0.mk hb1; have HB2 := Aside0.mk (RowKit.Below.grown (below_set (below_set (below_set (below_set HB.out GE.out) GE.out) GE.out) GE.out) hg1 (below_size (below_set (below_set (below_set (below_set HB.out GE.out) GE.out) GE.out) GE.out)) (fun k hk => by cases hk; exact GW.out)); clear HM HB hb1 hg1; have HM := HM2; have HB := HB2; clear HM2 HB2))
      go_roundg 19
      case measure => have := HN.out; omega
      case rel => exact ⟨39, rfl, ⟨by omega⟩, ⟨HM.out⟩, HB⟩
    · go_wp2_with (first | ((with_reducible refine gate_lookup rfl ?_); refine map_not rfl _ _ rfl hm hk rfl rfl HM.out _ (form_zero _) (by rfl) ?_) | ((with_reducible refine gate_dst (N := 3) rfl ?_); refine box_event ?hg (N := 3) ?hd (cs := #[.nilFunc, .int .i64 0, .int .i64 0, .nilFunc]) (t := 73) ?hr ?_; (case hd => rfl); (case hg => rfl); (case hr => first | (go_simp; done) | (go_simp; rfl)); intro gb hg w1 hbox hb; have n0 := Aside0.mk (blk_below HM.out hb); have n1 := Aside0.mk (below_step HB.out hb); have n2 := Aside0.mk hbox; have n3 := Aside0.mk (show w.heap.size ≤ gb by rw [hg]; exact below_size HB.out); have n4 := Aside0.mk (show b ≠ gb by rw [hg]; exact Nat.ne_of_lt (blk_lt HM.out)); clear HM HB; have HM := n0; have HB := n1; have BK := n2; have GE := n3; have NB := n4; clear n0 n1 n2 n3 n4 hb hbox hg; have hcz0 : w1.cell? ⟨gb, 0, none⟩ = some .nilFunc := (blk_cell BK.out 0).trans rfl; have hcz1 : w1.cell? ⟨gb, 1, none⟩ = some (.int .i64 0) := (blk_cell BK.out 1).trans rfl; have hcz2 : w1.cell? ⟨gb, 2, none⟩ = some (.int .i64 0) := (blk_cell BK.out 2).trans rfl; have hcz3 : w1.cell? ⟨gb, 3, none⟩ = some .nilFunc := (blk_cell BK.out 3).trans rfl; have hfz0 := blk_frozen BK.out 0; have hfz1 := blk_frozen BK.out 1; have hfz2 := blk_frozen BK.out 2; have hfz3 := blk_frozen BK.out 3) | ((with_reducible refine gate_update rfl ?_); refine map_put rfl _ _ _ (Or.inl rfl) hm hk rfl rfl _ rfl (obj_far (obj_far (obj_far (obj_far HM.out NB.out) NB.out) NB.out) NB.out) (by rfl) ?_; intro w2 hb1 hg1; have HM2 := Aside0.mk hb1; have HB2 := Aside0.mk (RowKit.Below.grown (below_set (below_set (below_set (below_set HB.out GE.out) GE.out) GE.out) GE.out) hg1 (below_size (below_set (below_set (below_set (below_set HB.out GE.out) GE.out) GE.out) GE.out)) (fun k hk => by cases hk; exact GW.out)); clear HM HB hb1 hg1; have HM := HM2; have HB := HB2; clear HM2 HB2))
      go_roundg 18
      case measure => have := HN.out; omega
      case rel => exact ⟨40, rfl, ⟨by omega⟩, ⟨HM.out⟩, HB⟩
    · go_wp2_with (first | ((with_reducible refine gate_lookup rfl ?_); refine map_not rfl _ _ rfl hm hk rfl rfl HM.out _ (form_zero _) (by rfl) ?_) | ((with_reducible refine gate_dst (N := 3) rfl ?_); refine box_event ?hg (N := 3) ?hd (cs := #[.nilFunc, .int .i64 0, .int .i64 0, .nilFunc]) (t := 73) ?hr ?_; (case hd => rfl); (case hg => rfl); (case hr => first | (go_simp; done) | (go_simp; rfl)); intro gb hg w1 hbox hb; have n0 := Aside0.mk (blk_below HM.out hb); have n1 := Aside0.mk (below_step HB.out hb); have n2 := Aside0.mk hbox; have n3 := Aside0.mk (show w.heap.size ≤ gb by rw [hg]; exact below_size HB.out); have n4 := Aside0.mk (show b ≠ gb by rw [hg]; exact Nat.ne_of_lt (blk_lt HM.out)); clear HM HB; have HM := n0; have HB := n1; have BK := n2; have GE := n3; have NB := n4; clear n0 n1 n2 n3 n4 hb hbox hg; have hcz0 : w1.cell? ⟨gb, 0, none⟩ = some .nilFunc := (blk_cell BK.out 0).trans rfl; have hcz1 : w1.cell? ⟨gb, 1, none⟩ = some (.int .i64 0) := (blk_cell BK.out 1).trans rfl; have hcz2 : w1.cell? ⟨gb, 2, none⟩ = some (.int .i64 0) := (blk_cell BK.out 2).trans rfl; have hcz3 : w1.cell? ⟨gb, 3, none⟩ = some .nilFunc := (blk_cell BK.out 3).trans rfl; have hfz0 := blk_frozen BK.out 0; have hfz1 := blk_frozen BK.out 1; have hfz2 := blk_frozen BK.out 2; have hfz3 := blk_frozen BK.out 3) | ((with_reducible refine gate_update rfl ?_); refine map_put rfl _ _ _ (Or.inl rfl) hm hk rfl rfl _ rfl (obj_far (obj_far (obj_far (obj_far HM.out NB.out) NB.out) NB.out) NB.out) (by rfl) ?_; intro w2 hb1 hg1; have HM2 := Aside0.mk hb1; have HB2 := Aside0.mk (RowKit.Below.grown (below_set (below_set (below_set (below_set HB.out GE.out) GE.out) GE.out) GE.out) hg1 (below_size (below_set (below_set (below_set (below_set HB.out GE.out) GE.out) GE.out) GE.out)) (fun k hk => by cases hk; exact GW.out)); clear HM HB hb1 hg1; have HM := HM2; have HB := HB2; clear HM2 HB2))
      go_roundg 17
      case measure => have := HN.out; omega
      case rel => exact ⟨41, rfl, ⟨by omega⟩, ⟨HM.out⟩, HB⟩
    · go_wp2_with (first | ((with_reducible refine gate_lookup rfl ?_); refine map_not rfl _ _ rfl hm hk rfl rfl HM.out _ (form_zero _) (by rfl) ?_) | ((with_reducible refine gate_dst (N := 3) rfl ?_); refine box_event ?hg (N := 3) ?hd (cs := #[.nilFunc, .int .i64 0, .int .i64 0, .nilFunc]) (t := 73) ?hr ?_; (case hd => rfl); (case hg => rfl); (case hr => first | (go_simp; done) | (go_simp; rfl)); intro gb hg w1 hbox hb; have n0 := Aside0.mk (blk_below HM.out hb); have n1 := Aside0.mk (below_step HB.out hb); have n2 := Aside0.mk hbox; have n3 := Aside0.mk (show w.heap.size ≤ gb by rw [hg]; exact below_size HB.out); have n4 := Aside0.mk (show b ≠ gb by rw [hg]; exact Nat.ne_of_lt (blk_lt HM.out)); clear HM HB; have HM := n0; have HB := n1; have BK := n2; have GE := n3; have NB := n4; clear n0 n1 n2 n3 n4 hb hbox hg; have hcz0 : w1.cell? ⟨gb, 0, none⟩ = some .nilFunc := (blk_cell BK.out 0).trans rfl; have hcz1 : w1.cell? ⟨gb, 1, none⟩ = some (.int .i64 0) := (blk_cell BK.out 1).trans rfl; have hcz2 : w1.cell? ⟨gb, 2, none⟩ = some (.int .i64 0) := (blk_cell BK.out 2).trans rfl; have hcz3 : w1.cell? ⟨gb, 3, none⟩ = some .nilFunc := (blk_cell BK.out 3).trans rfl; have hfz0 := blk_frozen BK.out 0; have hfz1 := blk_frozen BK.out 1; have hfz2 := blk_frozen BK.out 2; have hfz3 := blk_frozen BK.out 3) | ((with_reducible refine gate_update rfl ?_); refine map_put rfl _ _ _ (Or.inl rfl) hm hk rfl rfl _ rfl (obj_far (obj_far (obj_far (obj_far HM.out NB.out) NB.out) NB.out) NB.out) (by rfl) ?_; intro w2 hb1 hg1; have HM2 := Aside0.mk hb1; have HB2 := Aside0.mk (RowKit.Below.grown (below_set (below_set (below_set (below_set HB.out GE.out) GE.out) GE.out) GE.out) hg1 (below_size (below_set (below_set (below_set (below_set HB.out GE.out) GE.out) GE.out) GE.out)) (fun k hk => by cases hk; exact GW.out)); clear HM HB hb1 hg1; have HM := HM2; have HB := HB2; clear HM2 HB2))
      go_roundg 16
      case measure => have := HN.out; omega
      case rel => exact ⟨42, rfl, ⟨by omega⟩, ⟨HM.out⟩, HB⟩
    · go_wp2_with (first | ((with_reducible refine gate_lookup rfl ?_); refine map_not rfl _ _ rfl hm hk rfl rfl HM.out _ (form_zero _) (by rfl) ?_) | ((with_reducible refine gate_dst (N := 3) rfl ?_); refine box_event ?hg (N := 3) ?hd (cs := #[.nilFunc, .int .i64 0, .int .i64 0, .nilFunc]) (t := 73) ?hr ?_; (case hd => rfl); (case hg => rfl); (case hr => first | (go_simp; done) | (go_simp; rfl)); intro gb hg w1 hbox hb; have n0 := Aside0.mk (blk_below HM.out hb); have n1 := Aside0.mk (below_step HB.out hb); have n2 := Aside0.mk hbox; have n3 := Aside0.mk (show w.heap.size ≤ gb by rw [hg]; exact below_size HB.out); have n4 := Aside0.mk (show b ≠ gb by rw [hg]; exact Nat.ne_of_lt (blk_lt HM.out)); clear HM HB; have HM := n0; have HB := n1; have BK := n2; have GE := n3; have NB := n4; clear n0 n1 n2 n3 n4 hb hbox hg; have hcz0 : w1.cell? ⟨gb, 0, none⟩ = some .nilFunc := (blk_cell BK.out 0).trans rfl; have hcz1 : w1.cell? ⟨gb, 1, none⟩ = some (.int .i64 0) := (blk_cell BK.out 1).trans rfl; have hcz2 : w1.cell? ⟨gb, 2, none⟩ = some (.int .i64 0) := (blk_cell BK.out 2).trans rfl; have hcz3 : w1.cell? ⟨gb, 3, none⟩ = some .nilFunc := (blk_cell BK.out 3).trans rfl; have hfz0 := blk_frozen BK.out 0; have hfz1 := blk_frozen BK.out 1; have hfz2 := blk_frozen BK.out 2; have hfz3 := blk_frozen BK.out 3) | ((with_reducible refine gate_update rfl ?_); refine map_put rfl _ _ _ (Or.inl rfl) hm hk rfl rfl _ rfl (obj_far (obj_far (obj_far (obj_far HM.out NB.out) NB.out) NB.out) NB.out) (by rfl) ?_; intro w2 hb1 hg1; have HM2 := Aside0.mk hb1; have HB2 := Aside0.mk (RowKit.Below.grown (below_set (below_set (below_set (below_set HB.out GE.out) GE.out) GE.out) GE.out) hg1 (below_size (below_set (below_set (below_set (below_set HB.out GE.out) GE.out) GE.out) GE.out)) (fun k hk => by cases hk; exact GW.out)); clear HM HB hb1 hg1; have HM := HM2; have HB := HB2; clear HM2 HB2))
      go_roundg 15
      case measure => have := HN.out; omega
      case rel => exact ⟨43, rfl, ⟨by omega⟩, ⟨HM.out⟩, HB⟩
    · go_wp2_with (first | ((with_reducible refine gate_lookup rfl ?_); refine map_not rfl _ _ rfl hm hk rfl rfl HM.out _ (form_zero _) (by rfl) ?_) | ((with_reducible refine gate_dst (N := 3) rfl ?_); refine box_event ?hg (N := 3) ?hd (cs := #[.nilFunc, .int .i64 0, .int .i64 0, .nilFunc]) (t := 73) ?hr ?_; (case hd => rfl); (case hg => rfl); (case hr => first | (go_simp; done) | (go_simp; rfl)); intro gb hg w1 hbox hb; have n0 := Aside0.mk (blk_below HM.out hb); have n1 := Aside0.mk (below_step HB.out hb); have n2 := Aside0.mk hbox; have n3 := Aside0.mk (show w.heap.size ≤ gb by rw [hg]; exact below_size HB.out); have n4 := Aside0.mk (show b ≠ gb by rw [hg]; exact Nat.ne_of_lt (blk_lt HM.out)); clear HM HB; have HM := n0; have HB := n1; have BK := n2; have GE := n3; have NB := n4; clear n0 n1 n2 n3 n4 hb hbox hg; have hcz0 : w1.cell? ⟨gb, 0, none⟩ = some .nilFunc := (blk_cell BK.out 0).trans rfl; have hcz1 : w1.cell? ⟨gb, 1, none⟩ = some (.int .i64 0) := (blk_cell BK.out 1).trans rfl; have hcz2 : w1.cell? ⟨gb, 2, none⟩ = some (.int .i64 0) := (blk_cell BK.out 2).trans rfl; have hcz3 : w1.cell? ⟨gb, 3, none⟩ = some .nilFunc := (blk_cell BK.out 3).trans rfl; have hfz0 := blk_frozen BK.out 0; have hfz1 := blk_frozen BK.out 1; have hfz2 := blk_frozen BK.out 2; have hfz3 := blk_frozen BK.out 3) | ((with_reducible refine gate_update rfl ?_); refine map_put rfl _ _ _ (Or.inl rfl) hm hk rfl rfl _ rfl (obj_far (obj_far (obj_far (obj_far HM.out NB.out) NB.out) NB.out) NB.out) (by rfl) ?_; intro w2 hb1 hg1; have HM2 := Aside0.mk hb1; have HB2 := Aside0.mk (RowKit.Below.grown (below_set (below_set (below_set (below_set HB.out GE.out) GE.out) GE.out) GE.out) hg1 (below_size (below_set (below_set (below_set (below_set HB.out GE.out) GE.out) GE.out) GE.out)) (fun k hk => by cases hk; exact GW.out)); clear HM HB hb1 hg1; have HM := HM2; have HB := HB2; clear HM2 HB2))
      go_roundg 14
      case measure => have := HN.out; omega
      case rel => exact ⟨44, rfl, ⟨by omega⟩, ⟨HM.out⟩, HB⟩
    · go_wp2_with (first | ((with_reducible refine gate_lookup rfl ?_); refine map_not rfl _ _ rfl hm hk rfl rfl HM.out _ (form_zero _) (by rfl) ?_) | ((with_reducible refine gate_dst (N := 3) rfl ?_); refine box_event ?hg (N := 3) ?hd (cs := #[.nilFunc, .int .i64 0, .int .i64 0, .nilFunc]) (t := 73) ?hr ?_; (case hd => rfl); (case hg => rfl); (case hr => first | (go_simp; done) | (go_simp; rfl)); intro gb hg w1 hbox hb; have n0 := Aside0.mk (blk_below HM.out hb); have n1 := Aside0.mk (below_step HB.out hb); have n2 := Aside0.mk hbox; have n3 := Aside0.mk (show w.heap.size ≤ gb by rw [hg]; exact below_size HB.out); have n4 := Aside0.mk (show b ≠ gb by rw [hg]; exact Nat.ne_of_lt (blk_lt HM.out)); clear HM HB; have HM := n0; have HB := n1; have BK := n2; have GE := n3; have NB := n4; clear n0 n1 n2 n3 n4 hb hbox hg; have hcz0 : w1.cell? ⟨gb, 0, none⟩ = some .nilFunc := (blk_cell BK.out 0).trans rfl; have hcz1 : w1.cell? ⟨gb, 1, none⟩ = some (.int .i64 0) := (blk_cell BK.out 1).trans rfl; have hcz2 : w1.cell? ⟨gb, 2, none⟩ = some (.int .i64 0) := (blk_cell BK.out 2).trans rfl; have hcz3 : w1.cell? ⟨gb, 3, none⟩ = some .nilFunc := (blk_cell BK.out 3).trans rfl; have hfz0 := blk_frozen BK.out 0; have hfz1 := blk_frozen BK.out 1; have hfz2 := blk_frozen BK.out 2; have hfz3 := blk_frozen BK.out 3) | ((with_reducible refine gate_update rfl ?_); refine map_put rfl _ _ _ (Or.inl rfl) hm hk rfl rfl _ rfl (obj_far (obj_far (obj_far (obj_far HM.out NB.out) NB.out) NB.out) NB.out) (by rfl) ?_; intro w2 hb1 hg1; have HM2 := Aside0.mk hb1; have HB2 := Aside0.mk (RowKit.Below.grown (below_set (below_set (below_set (below_set HB.out GE.out) GE.out) GE.out) GE.out) hg1 (below_size (below_set (below_set (below_set (below_set HB.out GE.out) GE.out) GE.out) GE.out)) (fun k hk => by cases hk; exact GW.out)); clear HM HB hb1 hg1; have HM := HM2; have HB := HB2; clear HM2 HB2))
      go_roundg 13
      case measure => have := HN.out; omega
      case rel => exact ⟨45, rfl, ⟨by omega⟩, ⟨HM.out⟩, HB⟩
    · go_wp2_with (first | ((with_reducible refine gate_lookup rfl ?_); refine map_not rfl _ _ rfl hm hk rfl rfl HM.out _ (form_zero _) (by rfl) ?_) | ((with_reducible refine gate_dst (N := 3) rfl ?_); refine box_event ?hg (N := 3) ?hd (cs := #[.nilFunc, .int .i64 0, .int .i64 0, .nilFunc]) (t := 73) ?hr ?_; (case hd => rfl); (case hg => rfl); (case hr => first | (go_simp; done) | (go_simp; rfl)); intro gb hg w1 hbox hb; have n0 := Aside0.mk (blk_below HM.out hb); have n1 := Aside0.mk (below_step HB.out hb); have n2 := Aside0.mk hbox; have n3 := Aside0.mk (show w.heap.size ≤ gb by rw [hg]; exact below_size HB.out); have n4 := Aside0.mk (show b ≠ gb by rw [hg]; exact Nat.ne_of_lt (blk_lt HM.out)); clear HM HB; have HM := n0; have HB := n1; have BK := n2; have GE := n3; have NB := n4; clear n0 n1 n2 n3 n4 hb hbox hg; have hcz0 : w1.cell? ⟨gb, 0, none⟩ = some .nilFunc := (blk_cell BK.out 0).trans rfl; have hcz1 : w1.cell? ⟨gb, 1, none⟩ = some (.int .i64 0) := (blk_cell BK.out 1).trans rfl; have hcz2 : w1.cell? ⟨gb, 2, none⟩ = some (.int .i64 0) := (blk_cell BK.out 2).trans rfl; have hcz3 : w1.cell? ⟨gb, 3, none⟩ = some .nilFunc := (blk_cell BK.out 3).trans rfl; have hfz0 := blk_frozen BK.out 0; have hfz1 := blk_frozen BK.out 1; have hfz2 := blk_frozen BK.out 2; have hfz3 := blk_frozen BK.out 3) | ((with_reducible refine gate_update rfl ?_); refine map_put rfl _ _ _ (Or.inl rfl) hm hk rfl rfl _ rfl (obj_far (obj_far (obj_far (obj_far HM.out NB.out) NB.out) NB.out) NB.out) (by rfl) ?_; intro w2 hb1 hg1; have HM2 := Aside0.mk hb1; have HB2 := Aside0.mk (RowKit.Below.grown (below_set (below_set (below_set (below_set HB.out GE.out) GE.out) GE.out) GE.out) hg1 (below_size (below_set (below_set (below_set (below_set HB.out GE.out) GE.out) GE.out) GE.out)) (fun k hk => by cases hk; exact GW.out)); clear HM HB hb1 hg1; have HM := HM2; have HB := HB2; clear HM2 HB2))
      go_roundg 12
      case measure => have := HN.out; omega
      case rel => exact ⟨46, rfl, ⟨by omega⟩, ⟨HM.out⟩, HB⟩
    · go_wp2_with (first | ((with_reducible refine gate_lookup rfl ?_); refine map_not rfl _ _ rfl hm hk rfl rfl HM.out _ (form_zero _) (by rfl) ?_) | ((with_reducible refine gate_dst (N := 3) rfl ?_); refine box_event ?hg (N := 3) ?hd (cs := #[.nilFunc, .int .i64 0, .int .i64 0, .nilFunc]) (t := 73) ?hr ?_; (case hd => rfl); (case hg => rfl); (case hr => first | (go_simp; done) | (go_simp; rfl)); intro gb hg w1 hbox hb; have n0 := Aside0.mk (blk_below HM.out hb); have n1 := Aside0.mk (below_step HB.out hb); have n2 := Aside0.mk hbox; have n3 := Aside0.mk (show w.heap.size ≤ gb by rw [hg]; exact below_size HB.out); have n4 := Aside0.mk (show b ≠ gb by rw [hg]; exact Nat.ne_of_lt (blk_lt HM.out)); clear HM HB; have HM := n0; have HB := n1; have BK := n2; have GE := n3; have NB := n4; clear n0 n1 n2 n3 n4 hb hbox hg; have hcz0 : w1.cell? ⟨gb, 0, none⟩ = some .nilFunc := (blk_cell BK.out 0).trans rfl; have hcz1 : w1.cell? ⟨gb, 1, none⟩ = some (.int .i64 0) := (blk_cell BK.out 1).trans rfl; have hcz2 : w1.cell? ⟨gb, 2, none⟩ = some (.int .i64 0) := (blk_cell BK.out 2).trans rfl; have hcz3 : w1.cell? ⟨gb, 3, none⟩ = some .nilFunc := (blk_cell BK.out 3).trans rfl; have hfz0 := blk_frozen BK.out 0; have hfz1 := blk_frozen BK.out 1; have hfz2 := blk_frozen BK.out 2; have hfz3 := blk_frozen BK.out 3) | ((with_reducible refine gate_update rfl ?_); refine map_put rfl _ _ _ (Or.inl rfl) hm hk rfl rfl _ rfl (obj_far (obj_far (obj_far (obj_far HM.out NB.out) NB.out) NB.out) NB.out) (by rfl) ?_; intro w2 hb1 hg1; have HM2 := Aside0.mk hb1; have HB2 := Aside0.mk (RowKit.Below.grown (below_set (below_set (below_set (below_set HB.out GE.out) GE.out) GE.out) GE.out) hg1 (below_size (below_set (below_set (below_set (below_set HB.out GE.out) GE.out) GE.out) GE.out)) (fun k hk => by cases hk; exact GW.out)); clear HM HB hb1 hg1; have HM := HM2; have HB := HB2; clear HM2 HB2))
      go_roundg 11
      case measure => have := HN.out; omega
      case rel => exact ⟨47, rfl, ⟨by omega⟩, ⟨HM.out⟩, HB⟩
    · go_wp2_with (first | ((with_reducible refine gate_lookup rfl ?_); refine map_not rfl _ _ rfl hm hk rfl rfl HM.out _ (form_zero _) (by rfl) ?_) | ((with_reducible refine gate_dst (N := 3) rfl ?_); refine box_event ?hg (N := 3) ?hd (cs := #[.nilFunc, .int .i64 0, .int .i64 0, .nilFunc]) (t := 73) ?hr ?_; (case hd => rfl); (case hg => rfl); (case hr => first | (go_simp; done) | (go_simp; rfl)); intro gb hg w1 hbox hb; have n0 := Aside0.mk (blk_below HM.out hb); have n1 := Aside0.mk (below_step HB.out hb); have n2 := Aside0.mk hbox; have n3 := Aside0.mk (show w.heap.size ≤ gb by rw [hg]; exact below_size HB.out); have n4 := Aside0.mk (show b ≠ gb by rw [hg]; exact Nat.ne_of_lt (blk_lt HM.out)); clear HM HB; have HM := n0; have HB := n1; have BK := n2; have GE := n3; have NB := n4; clear n0 n1 n2 n3 n4 hb hbox hg; have hcz0 : w1.cell? ⟨gb, 0, none⟩ = some .nilFunc := (blk_cell BK.out 0).trans rfl; have hcz1 : w1.cell? ⟨gb, 1, none⟩ = some (.int .i64 0) := (blk_cell BK.out 1).trans rfl; have hcz2 : w1.cell? ⟨gb, 2, none⟩ = some (.int .i64 0) := (blk_cell BK.out 2).trans rfl; have hcz3 : w1.cell? ⟨gb, 3, none⟩ = some .nilFunc := (blk_cell BK.out 3).trans rfl; have hfz0 := blk_frozen BK.out 0; have hfz1 := blk_frozen BK.out 1; have hfz2 := blk_frozen BK.out 2; have hfz3 := blk_frozen BK.out 3) | ((with_reducible refine gate_update rfl ?_); refine map_put rfl _ _ _ (Or.inl rfl) hm hk rfl rfl _ rfl (obj_far (obj_far (obj_far (obj_far HM.out NB.out) NB.out) NB.out) NB.out) (by rfl) ?_; intro w2 hb1 hg1; have HM2 := Aside0.mk hb1; have HB2 := Aside0.mk (RowKit.Below.grown (below_set (below_set (below_set (below_set HB.out GE.out) GE.out) GE.out) GE.out) hg1 (below_size (below_set (below_set (below_set (below_set HB.out GE.out) GE.out) GE.out) GE.out)) (fun k hk => by cases hk; exact GW.out)); clear HM HB hb1 hg1; have HM := HM2; have HB := HB2; clear HM2 HB2))
      go_roundg 10
      case measure => have := HN.out; omega
      case rel => exact ⟨48, rfl, ⟨by omega⟩, ⟨HM.out⟩, HB⟩
    · go_wp2_with (first | ((with_reducible refine gate_lookup rfl ?_); refine map_not rfl _ _ rfl hm hk rfl rfl HM.out _ (form_zero _) (by rfl) ?_) | ((with_reducible refine gate_dst (N := 3) rfl ?_); refine box_event ?hg (N := 3) ?hd (cs := #[.nilFunc, .int .i64 0, .int .i64 0, .nilFunc]) (t := 73) ?hr ?_; (case hd => rfl); (case hg => rfl); (case hr => first | (go_simp; done) | (go_simp; rfl)); intro gb hg w1 hbox hb; have n0 := Aside0.mk (blk_below HM.out hb); have n1 := Aside0.mk (below_step HB.out hb); have n2 := Aside0.mk hbox; have n3 := Aside0.mk (show w.heap.size ≤ gb by rw [hg]; exact below_size HB.out); have n4 := Aside0.mk (show b ≠ gb by rw [hg]; exact Nat.ne_of_lt (blk_lt HM.out)); clear HM HB; have HM := n0; have HB := n1; have BK := n2; have GE := n3; have NB := n4; clear n0 n1 n2 n3 n4 hb hbox hg; have hcz0 : w1.cell? ⟨gb, 0, none⟩ = some .nilFunc := (blk_cell BK.out 0).trans rfl; have hcz1 : w1.cell? ⟨gb, 1, none⟩ = some (.int .i64 0) := (blk_cell BK.out 1).trans rfl; have hcz2 : w1.cell? ⟨gb, 2, none⟩ = some (.int .i64 0) := (blk_cell BK.out 2).trans rfl; have hcz3 : w1.cell? ⟨gb, 3, none⟩ = some .nilFunc := (blk_cell BK.out 3).trans rfl; have hfz0 := blk_frozen BK.out 0; have hfz1 := blk_frozen BK.out 1; have hfz2 := blk_frozen BK.out 2; have hfz3 := blk_frozen BK.out 3) | ((with_reducible refine gate_update rfl ?_); refine map_put rfl _ _ _ (Or.inl rfl) hm hk rfl rfl _ rfl (obj_far (obj_far (obj_far (obj_far HM.out NB.out) NB.out) NB.out) NB.out) (by rfl) ?_; intro w2 hb1 hg1; have HM2 := Aside0.mk hb1; have HB2 := Aside0.mk (RowKit.Below.grown (below_set (below_set (below_set (below_set HB.out GE.out) GE.out) GE.out) GE.out) hg1 (below_size (below_set (below_set (below_set (below_set HB.out GE.out) GE.out) GE.out) GE.out)) (fun k hk => by cases hk; exact GW.out)); clear HM HB hb1 hg1; have HM := HM2; have HB := HB2; clear HM2 HB2))
      go_roundg 9
      case measure => have := HN.out; omega
      case rel => exact ⟨49, rfl, ⟨by omega⟩, ⟨HM.out⟩, HB⟩
    · go_wp2_with (first | ((with_reducible refine gate_lookup rfl ?_); refine map_not rfl _ _ rfl hm hk rfl rfl HM.out _ (form_zero _) (by rfl) ?_) | ((with_reducible refine gate_dst (N := 3) rfl ?_); refine box_event ?hg (N := 3) ?hd (cs := #[.nilFunc, .int .i64 0, .int .i64 0, .nilFunc]) (t := 73) ?hr ?_; (case hd => rfl); (case hg => rfl); (case hr => first | (go_simp; done) | (go_simp; rfl)); intro gb hg w1 hbox hb; have n0 := Aside0.mk (blk_below HM.out hb); have n1 := Aside0.mk (below_step HB.out hb); have n2 := Aside0.mk hbox; have n3 := Aside0.mk (show w.heap.size ≤ gb by rw [hg]; exact below_size HB.out); have n4 := Aside0.mk (show b ≠ gb by rw [hg]; exact Nat.ne_of_lt (blk_lt HM.out)); clear HM HB; have HM := n0; have HB := n1; have BK := n2; have GE := n3; have NB := n4; clear n0 n1 n2 n3 n4 hb hbox hg; have hcz0 : w1.cell? ⟨gb, 0, none⟩ = some .nilFunc := (blk_cell BK.out 0).trans rfl; have hcz1 : w1.cell? ⟨gb, 1, none⟩ = some (.int .i64 0) := (blk_cell BK.out 1).trans rfl; have hcz2 : w1.cell? ⟨gb, 2, none⟩ = some (.int .i64 0) := (blk_cell BK.out 2).trans rfl; have hcz3 : w1.cell? ⟨gb, 3, none⟩ = some .nilFunc := (blk_cell BK.out 3).trans rfl; have hfz0 := blk_frozen BK.out 0; have hfz1 := blk_frozen BK.out 1; have hfz2 := blk_frozen BK.out 2; have hfz3 := blk_frozen BK.out 3))
      go_roundg 8
      case measure => have := HN.out; omega
      case rel => exact ⟨50, rfl, ⟨by omega⟩, ⟨(obj_far (obj_far (obj_far (obj_far HM.out NB.out) NB.out) NB.out) NB.out)⟩, ⟨below_set (below_set (below_set (below_set HB.out GE.out) GE.out) GE.out) GE.out⟩⟩
    · go_wp2_with (first | ((with_reducible refine gate_lookup rfl ?_); refine map_not rfl _ _ rfl hm hk rfl rfl HM.out _ (form_zero _) (by rfl) ?_) | ((with_reducible refine gate_dst (N := 3) rfl ?_); refine box_event ?hg (N := 3) ?hd (cs := #[.nilFunc, .int .i64 0, .int .i64 0, .nilFunc]) (t := 73) ?hr ?_; (case hd => rfl); (case hg => rfl); (case hr => first | (go_simp; done) | (go_simp; rfl)); intro gb hg w1 hbox hb; have n0 := Aside0.mk (blk_below HM.out hb); have n1 := Aside0.mk (below_step HB.out hb); have n2 := Aside0.mk hbox; have n3 := Aside0.mk (show w.heap.size ≤ gb by rw [hg]; exact below_size HB.out); have n4 := Aside0.mk (show b ≠ gb by rw [hg]; exact Nat.ne_of_lt (blk_lt HM.out)); clear HM HB; have HM := n0; have HB := n1; have BK := n2; have GE := n3; have NB := n4; clear n0 n1 n2 n3 n4 hb hbox hg; have hcz0 : w1.cell? ⟨gb, 0, none⟩ = some .nilFunc := (blk_cell BK.out 0).trans rfl; have hcz1 : w1.cell? ⟨gb, 1, none⟩ = some (.int .i64 0) := (blk_cell BK.out 1).trans rfl; have hcz2 : w1.cell? ⟨gb, 2, none⟩ = some (.int .i64 0) := (blk_cell BK.out 2).trans rfl; have hcz3 : w1.cell? ⟨gb, 3, none⟩ = some .nilFunc := (blk_cell BK.out 3).trans rfl; have hfz0 := blk_frozen BK.out 0; have hfz1 := blk_frozen BK.out 1; have hfz2 := blk_frozen BK.out 2; have hfz3 := blk_frozen BK.out 3) | ((with_reducible refine gate_update rfl ?_); refine map_put rfl _ _ _ (Or.inl rfl) hm hk rfl rfl _ rfl (obj_far (obj_far (obj_far (obj_far HM.out NB.out) NB.out) NB.out) NB.out) (by rfl) ?_; intro w2 hb1 hg1; have HM2 := Aside0.mk hb1; have HB2 := Aside0.mk (RowKit.Below.grown (below_set (below_set (below_set (below_set HB.out GE.out) GE.out) GE.out) GE.out) hg1 (below_size (below_set (below_set (below_set (below_set HB.out GE.out) GE.out) GE.out) GE.out)) (fun k hk => by cases hk; exact GW.out)); clear HM HB hb1 hg1; have HM := HM2; have HB := HB2; clear HM2 HB2))
      go_roundg 7
      case measure => have := HN.out; omega
      case rel => exact ⟨51, rfl, ⟨by omega⟩, ⟨HM.out⟩, HB⟩
    · go_wp2_with (first | ((with_reducible refine gate_lookup rfl ?_); refine map_not rfl _ _ rfl hm hk rfl rfl HM.out _ (form_zero _) (by rfl) ?_) | ((with_reducible refine gate_dst (N := 3) rfl ?_); refine box_event ?hg (N := 3) ?hd (cs := #[.nilFunc, .int .i64 0, .int .i64 0, .nilFunc]) (t := 73) ?hr ?_; (case hd => rfl); (case hg => rfl); (case hr => first | (go_simp; done) | (go_simp; rfl)); intro gb hg w1 hbox hb; have n0 := Aside0.mk (blk_below HM.out hb); have n1 := Aside0.mk (below_step HB.out hb); have n2 := Aside0.mk hbox; have n3 := Aside0.mk (show w.heap.size ≤ gb by rw [hg]; exact below_size HB.out); have n4 := Aside0.mk (show b ≠ gb by rw [hg]; exact Nat.ne_of_lt (blk_lt HM.out)); clear HM HB; have HM := n0; have HB := n1; have BK := n2; have GE := n3; have NB := n4; clear n0 n1 n2 n3 n4 hb hbox hg; have hcz0 : w1.cell? ⟨gb, 0, none⟩ = some .nilFunc := (blk_cell BK.out 0).trans rfl; have hcz1 : w1.cell? ⟨gb, 1, none⟩ = some (.int .i64 0) := (blk_cell BK.out 1).trans rfl; have hcz2 : w1.cell? ⟨gb, 2, none⟩ = some (.int .i64 0) := (blk_cell BK.out 2).trans rfl; have hcz3 : w1.cell? ⟨gb, 3, none⟩ = some .nilFunc := (blk_cell BK.out 3).trans rfl; have hfz0 := blk_frozen BK.out 0; have hfz1 := blk_frozen BK.out 1; have hfz2 := blk_frozen BK.out 2; have hfz3 := blk_frozen BK.out 3) | ((with_reducible refine gate_update rfl ?_); refine map_put rfl _ _ _ (Or.inl rfl) hm hk rfl rfl _ rfl (obj_far (obj_far (obj_far (obj_far HM.out NB.out) NB.out) NB.out) NB.out) (by rfl) ?_; intro w2 hb1 hg1; have HM2 := Aside0.mk hb1; have HB2 := Aside0.mk (RowKit.Below.grown (below_set (below_set (below_set (below_set HB.out GE.out) GE.out) GE.out) GE.out) hg1 (below_size (below_set (below_set (below_set (below_set HB.out GE.out) GE.out) GE.out) GE.out)) (fun k hk => by cases hk; exact GW.out)); clear HM HB hb1 hg1; have HM := HM2; have HB := HB2; clear HM2 HB2))
      go_roundg 6
      case measure => have := HN.out; omega
      case rel => exact ⟨52, rfl, ⟨by omega⟩, ⟨HM.out⟩, HB⟩
    · go_wp2_with (first | ((with_reducible refine gate_lookup rfl ?_); refine map_not rfl _ _ rfl hm hk rfl rfl HM.out _ (form_zero _) (by rfl) ?_) | ((with_reducible refine gate_dst (N := 3) rfl ?_); refine box_event ?hg (N := 3) ?hd (cs := #[.nilFunc, .int .i64 0, .int .i64 0, .nilFunc]) (t := 73) ?hr ?_; (case hd => rfl); (case hg => rfl); (case hr => first | (go_simp; done) | (go_simp; rfl)); intro gb hg w1 hbox hb; have n0 := Aside0.mk (blk_below HM.out hb); have n1 := Aside0.mk (below_step HB.out hb); have n2 := Aside0.mk hbox; have n3 := Aside0.mk (show w.heap.size ≤ gb by rw [hg]; exact below_size HB.out); have n4 := Aside0.mk (show b ≠ gb by rw [hg]; exact Nat.ne_of_lt (blk_lt HM.out)); clear HM HB; have HM := n0; have HB := n1; have BK := n2; have GE := n3; have NB := n4; clear n0 n1 n2 n3 n4 hb hbox hg; have hcz0 : w1.cell? ⟨gb, 0, none⟩ = some .nilFunc := (blk_cell BK.out 0).trans rfl; have hcz1 : w1.cell? ⟨gb, 1, none⟩ = some (.int .i64 0) := (blk_cell BK.out 1).trans rfl; have hcz2 : w1.cell? ⟨gb, 2, none⟩ = some (.int .i64 0) := (blk_cell BK.out 2).trans rfl; have hcz3 : w1.cell? ⟨gb, 3, none⟩ = some .nilFunc := (blk_cell BK.out 3).trans rfl; have hfz0 := blk_frozen BK.out 0; have hfz1 := blk_frozen BK.out 1; have hfz2 := blk_frozen BK.out 2; have hfz3 := blk_frozen BK.out 3) | ((with_reducible refine gate_update rfl ?_); refine map_put rfl _ _ _ (Or.inl rfl) hm hk rfl rfl _ rfl (obj_far (obj_far (obj_far (obj_far HM.out NB.out) NB.out) NB.out) NB.out) (by rfl) ?_; intro w2 hb1 hg1; have HM2 := Aside0.mk hb1; have HB2 := Aside0.mk (RowKit.Below.grown (below_set (below_set (below_set (below_set HB.out GE.out) GE.out) GE.out) GE.out) hg1 (below_size (below_set (below_set (below_set (below_set HB.out GE.out) GE.out) GE.out) GE.out)) (fun k hk => by cases hk; exact GW.out)); clear HM HB hb1 hg1; have HM := HM2; have HB := HB2; clear HM2 HB2))
      go_roundg 5
      case measure => have := HN.out; omega
      case rel => exact ⟨53, rfl, ⟨by omega⟩, ⟨HM.out⟩, HB⟩
    · go_wp2_with (first | ((with_reducible refine gate_lookup rfl ?_); refine map_has rfl _ _ rfl hm hk rfl rfl HM.out 7 (.agg #[.func (.func 72) #[] #[], .int .i64 1, .int .i64 1, .func (.func 77) #[] #[]]) (by rfl) ?_) | ((with_reducible refine gate_dst (N := 3) rfl ?_); refine box_event ?hg (N := 3) ?hd (cs := #[.nilFunc, .int .i64 0, .int .i64 0, .nilFunc]) (t := 73) ?hr ?_; (case hd => rfl); (case hg => rfl); (case hr => first | (go_simp; done) | (go_simp; rfl)); intro gb hg w1 hbox hb; have n0 := Aside0.mk (blk_below HM.out hb); have n1 := Aside0.mk (below_step HB.out hb); have n2 := Aside0.mk hbox; have n3 := Aside0.mk (show w.heap.size ≤ gb by rw [hg]; exact below_size HB.out); have n4 := Aside0.mk (show b ≠ gb by rw [hg]; exact Nat.ne_of_lt (blk_lt HM.out)); clear HM HB; have HM := n0; have HB := n1; have BK := n2; have GE := n3; have NB := n4; clear n0 n1 n2 n3 n4 hb hbox hg; have hcz0 : w1.cell? ⟨gb, 0, none⟩ = some .nilFunc := (blk_cell BK.out 0).trans rfl; have hcz1 : w1.cell? ⟨gb, 1, none⟩ = some (.int .i64 0) := (blk_cell BK.out 1).trans rfl; have hcz2 : w1.cell? ⟨gb, 2, none⟩ = some (.int .i64 0) := (blk_cell BK.out 2).trans rfl; have hcz3 : w1.cell? ⟨gb, 3, none⟩ = some .nilFunc := (blk_cell BK.out 3).trans rfl; have hfz0 := blk_frozen BK.out 0; have hfz1 := blk_frozen BK.out 1; have hfz2 := blk_frozen BK.out 2; have hfz3 := blk_frozen BK.out 3))
      go_roundg 4
      case measure => have := HN.out; omega
      case rel => exact ⟨54, rfl, ⟨by omega⟩, ⟨(obj_far (obj_far (obj_far (obj_far HM.out NB.out) NB.out) NB.out) NB.out)⟩, ⟨below_set (below_set (below_set (below_set HB.out GE.out) GE.out) GE.out) GE.out⟩⟩
    · go_wp2_with (first | ((with_reducible refine gate_lookup rfl ?_); refine map_not rfl _ _ rfl hm hk rfl rfl HM.out _ (form_zero _) (by rfl) ?_) | ((with_reducible refine gate_dst (N := 3) rfl ?_); refine box_event ?hg (N := 3) ?hd (cs := #[.nilFunc, .int .i64 0, .int .i64 0, .nilFunc]) (t := 73) ?hr ?_; (case hd => rfl); (case hg => rfl); (case hr => first | (go_simp; done) | (go_simp; rfl)); intro gb hg w1 hbox hb; have n0 := Aside0.mk (blk_below HM.out hb); have n1 := Aside0.mk (below_step HB.out hb); have n2 := Aside0.mk hbox; have n3 := Aside0.mk (show w.heap.size ≤ gb by rw [hg]; exact below_size HB.out); have n4 := Aside0.mk (show b ≠ gb by rw [hg]; exact Nat.ne_of_lt (blk_lt HM.out)); clear HM HB; have HM := n0; have HB := n1; have BK := n2; have GE := n3; have NB := n4; clear n0 n1 n2 n3 n4 hb hbox hg; have hcz0 : w1.cell? ⟨gb, 0, none⟩ = some .nilFunc := (blk_cell BK.out 0).trans rfl; have hcz1 : w1.cell? ⟨gb, 1, none⟩ = some (.int .i64 0) := (blk_cell BK.out 1).trans rfl; have hcz2 : w1.cell? ⟨gb, 2, none⟩ = some (.int .i64 0) := (blk_cell BK.out 2).trans rfl; have hcz3 : w1.cell? ⟨gb, 3, none⟩ = some .nilFunc := (blk_cell BK.out 3).trans rfl; have hfz0 := blk_frozen BK.out 0; have hfz1 := blk_frozen BK.out 1; have hfz2 := blk_frozen BK.out 2; have hfz3 := blk_frozen BK.out 3) | ((with_reducible refine gate_update rfl ?_); refine map_put rfl _ _ _ (Or.inl rfl) hm hk rfl rfl _ rfl (obj_far (obj_far (obj_far (obj_far HM.out NB.out) NB.out) NB.out) NB.out) (by rfl) ?_; intro w2 hb1 hg1; have HM2 := Aside0.mk hb1; have HB2 := Aside0.mk (RowKit.Below.grown (below_set (below_set (below_set (below_set HB.out GE.out) GE.out) GE.out) GE.out) hg1 (below_size (below_set (below_set (below_set (below_set HB.out GE.out) GE.out) GE.out) GE.out)) (fun k hk => by cases hk; exact GW.out)); clear HM HB hb1 hg1; have HM := HM2; have HB := HB2; clear HM2 HB2))
      go_roundg 3
      case measure => have := HN.out; omega
      case rel => exact ⟨55, rfl, ⟨by omega⟩, ⟨HM.out⟩, HB⟩
    · go_wp2_with (first | ((with_reducible refine gate_lookup rfl ?_); refine map_not rfl _ _ rfl hm hk rfl rfl HM.out _ (form_zero _) (by rfl) ?_) | ((with_reducible refine gate_dst (N := 3) rfl ?_); refine box_event ?hg (N := 3) ?hd (cs := #[.nilFunc, .int .i64 0, .int .i64 0, .nilFunc]) (t := 73) ?hr ?_; (case hd => rfl); (case hg => rfl); (case hr => first | (go_simp; done) | (go_simp; rfl)); intro gb hg w1 hbox hb; have n0 := Aside0.mk (blk_below HM.out hb); have n1 := Aside0.mk (below_step HB.out hb); have n2 := Aside0.mk hbox; have n3 := Aside0.mk (show w.heap.size ≤ gb by rw [hg]; exact below_size HB.out); have n4 := Aside0.mk (show b ≠ gb by rw [hg]; exact Nat.ne_of_lt (blk_lt HM.out)); clear HM HB; have HM := n0; have HB := n1; have BK := n2; have GE := n3; have NB := n4; clear n0 n1 n2 n3 n4 hb hbox hg; have hcz0 : w1.cell? ⟨gb, 0, none⟩ = some .nilFunc := (blk_cell BK.out 0).trans rfl; have hcz1 : w1.cell? ⟨gb, 1, none⟩ = some (.int .i64 0) := (blk_cell BK.out 1).trans rfl; have hcz2 : w1.cell? ⟨gb, 2, none⟩ = some (.int .i64 0) := (blk_cell BK.out 2).trans rfl; have hcz3 : w1.cell? ⟨gb, 3, none⟩ = some .nilFunc := (blk_cell BK.out 3).trans rfl; have hfz0 := blk_frozen BK.out 0; have hfz1 := blk_frozen BK.out 1; have hfz2 := blk_frozen BK.out 2; have hfz3 := blk_frozen BK.out 3) | ((with_reducible refine gate_update rfl ?_); refine map_put rfl _ _ _ (Or.inl rfl) hm hk rfl rfl _ rfl (obj_far (obj_far (obj_far (obj_far HM.out NB.out) NB.out) NB.out) NB.out) (by rfl) ?_; intro w2 hb1 hg1; have HM2 := Aside0.mk hb1; have HB2 := Aside0.mk (RowKit.Below.grown (below_set (below_set (below_set (below_set HB.out GE.out) GE.out) GE.out) GE.out) hg1 (below_size (below_set (below_set (below_set (below_set HB.out GE.out) GE.out) GE.out) GE.out)) (fun k hk => by cases hk; exact GW.out)); clear HM HB hb1 hg1; have HM := HM2; have HB := HB2; clear HM2 HB2))
      go_roundg 2
      case measure => have := HN.out; omega
      case rel => exact ⟨56, rfl, ⟨by omega⟩, ⟨HM.out⟩, HB⟩
    · go_wp2_with (first | ((with_reducible refine gate_lookup rfl ?_); refine map_not rfl _ _ rfl hm hk rfl rfl HM.out _ (form_zero _) (by rfl) ?_) | ((with_reducible refine gate_dst (N := 3) rfl ?_); refine box_event ?hg (N := 3) ?hd (cs := #[.nilFunc, .int .i64 0, .int .i64 0, .nilFunc]) (t := 73) ?hr ?_; (case hd => rfl); (case hg => rfl); (case hr => first | (go_simp; done) | (go_simp; rfl)); intro gb hg w1 hbox hb; have n0 := Aside0.mk (blk_below HM.out hb); have n1 := Aside0.mk (below_step HB.out hb); have n2 := Aside0.mk hbox; have n3 := Aside0.mk (show w.heap.size ≤ gb by rw [hg]; exact below_size HB.out); have n4 := Aside0.mk (show b ≠ gb by rw [hg]; exact Nat.ne_of_lt (blk_lt HM.out)); clear HM HB; have HM := n0; have HB := n1; have BK := n2; have GE := n3; have NB := n4; clear n0 n1 n2 n3 n4 hb hbox hg; have hcz0 : w1.cell? ⟨gb, 0, none⟩ = some .nilFunc := (blk_cell BK.out 0).trans rfl; have hcz1 : w1.cell? ⟨gb, 1, none⟩ = some (.int .i64 0) := (blk_cell BK.out 1).trans rfl; have hcz2 : w1.cell? ⟨gb, 2, none⟩ = some (.int .i64 0) := (blk_cell BK.out 2).trans rfl; have hcz3 : w1.cell? ⟨gb, 3, none⟩ = some .nilFunc := (blk_cell BK.out 3).trans rfl; have hfz0 := blk_frozen BK.out 0; have hfz1 := blk_frozen BK.out 1; have hfz2 := blk_frozen BK.out 2; have hfz3 := blk_frozen BK.out 3) | ((with_reducible refine gate_update rfl ?_); refine map_put rfl _ _ _ (Or.inl rfl) hm hk rfl rfl _ rfl (obj_far (obj_far (obj_far (obj_far HM.out NB.out) NB.out) NB.out) NB.out) (by rfl) ?_; intro w2 hb1 hg1; have HM2 := Aside0.mk hb1; have HB2 := Aside0.mk (RowKit.Below.grown (below_set (below_set (below_set (below_set HB.out GE.out) GE.out) GE.out) GE.out) hg1 (below_size (below_set (below_set (below_set (below_set HB.out GE.out) GE.out) GE.out) GE.out)) (fun k hk => by cases hk; exact GW.out)); clear HM HB hb1 hg1; have HM := HM2; have HB := HB2; clear HM2 HB2))
      go_roundg 1
      case measure => have := HN.out; omega
      case rel => exact ⟨57, rfl, ⟨by omega⟩, ⟨HM.out⟩, HB⟩
    · go_wp2_with (first | ((with_reducible refine gate_lookup rfl ?_); refine map_not rfl _ _ rfl hm hk rfl rfl HM.out _ (form_zero _) (by rfl) ?_) | ((with_reducible refine gate_dst (N := 3) rfl ?_); refine box_event ?hg (N := 3) ?hd (cs := #[.nilFunc, .int .i64 0, .int .i64 0, .nilFunc]) (t := 73) ?hr ?_; (case hd => rfl); (case hg => rfl); (case hr => first | (go_simp; done) | (go_simp; rfl)); intro gb hg w1 hbox hb; have n0 := Aside0.mk (blk_below HM.out hb); have n1 := Aside0.mk (below_step HB.out hb); have n2 := Aside0.mk hbox; have n3 := Aside0.mk (show w.heap.size ≤ gb by rw [hg]; exact below_size HB.out); have n4 := Aside0.mk (show b ≠ gb by rw [hg]; exact Nat.ne_of_lt (blk_lt HM.out)); clear HM HB; have HM := n0; have HB := n1; have BK := n2; have GE := n3; have NB := n4; clear n0 n1 n2 n3 n4 hb hbox hg; have hcz0 : w1.cell? ⟨gb, 0, none⟩ = some .nilFunc := (blk_cell BK.out 0).trans rfl; have hcz1 : w1.cell? ⟨gb, 1, none⟩ = some (.int .i64 0) := (blk_cell BK.out 1).trans rfl; have hcz2 : w1.cell? ⟨gb, 2, none⟩ = some (.int .i64 0) := (blk_cell BK.out 2).trans rfl; have hcz3 : w1.cell? ⟨gb, 3, none⟩ = some .nilFunc := (blk_cell BK.out 3).trans rfl; have hfz0 := blk_frozen BK.out 0; have hfz1 := blk_frozen BK.out 1; have hfz2 := blk_frozen BK.out 2; have hfz3 := blk_frozen BK.out 3) | ((with_reducible refine gate_update rfl ?_); refine map_put rfl _ _ _ (Or.inl rfl) hm hk rfl rfl _ rfl (obj_far (obj_far (obj_far (obj_far HM.out NB.out) NB.out) NB.out) NB.out) (by rfl) ?_; intro w2 hb1 hg1; have HM2 := Aside0.mk hb1; have HB2 := Aside0.mk (RowKit.Below.grown (below_set (below_set (below_set (below_set HB.out GE.out) GE.out) GE.out) GE.out) hg1 (below_size (below_set (below_set (below_set (below_set HB.out GE.out) GE.out) GE.out) GE.out)) (fun k hk => by cases hk; exact GW.out)); clear HM HB hb1 hg1; have HM := HM2; have HB := HB2; clear HM2 HB2))
      go_roundg 0
      case measure => have := HN.out; omega
      case rel => exact ⟨58, rfl, ⟨by omega⟩, ⟨HM.out⟩, HB⟩
end Go.Proofs.Ytlbchdalimngjaa.P
namespace Go.Proofs.Ytlbchdalimngjaa.P
open Go.RowKit Go.Proofs.YtlbchdalimngjaaW.PrintWords Go.Proofs.YtlbchdalimngjaaW.PrintLast Go.Proofs.YtlbchdalimngjaaW.PrintMore
attribute [local go_sem] max2_int min2_int max_two min_two max_three min_three max_four min_four
set_option linter.unusedVariables false
set_option linter.unusedSimpArgs false
def tree_short.f (a0 : ByteArray) : Option (Bool) := some (decide ((a0.size : Int) ≤ 4095))
set_option maxHeartbeats 8000000 in
set_option maxRecDepth 100000 in
theorem tree_short.calls (a0 : ByteArray) (r : Bool) (w : World) (h : tree_short.f a0 = some r) :
    Calls Try.prog 75 #[.string a0] w fun e w' => e = .returned (.bool r) ∧ Drawn0 w w' := by
  have H : (some (decide ((a0.size : Int) ≤ 4095))) = some r := h
  clear h
  obtain rfl := Option.some.inj H
  go_enter Try.func75, Try.ntmps75
  go_wp2
  go_ret
  exact ⟨by first | rfl | (simp; done) | (simp [*]; done), by repeat (first | exact Drawn0.refl _ | apply Drawn0.step)⟩
def tree_expr.f (k : Nat) (a0 : Int) (a1 : Int) (a2 : Int) : Option (Bool) := (tree_Expression.f k a2).bind fun t349 => (some t349)
theorem tree_expr.mono : ∀ a0 a1 a2 k, LeO (tree_expr.f k a0 a1 a2) (tree_expr.f (k + 1) a0 a1 a2) := by
  intro a0 a1 a2 k
  unfold tree_expr.f
  repeat' first
      | (with_reducible exact tree_Expression.mono _ _)
      | (with_reducible exact LeO.refl _)
      | (with_reducible exact LeO.none _)
      | (with_reducible refine LeO.ite ?_ ?_)
      | (with_reducible refine LeO.bind ?_ (fun _ => ?_))
      | exact tree_Expression.mono _ _
      | exact LeO.none _
      | refine LeO.ite ?_ ?_
      | refine LeO.bind ?_ (fun _ => ?_)
set_option maxHeartbeats 8000000 in
set_option maxRecDepth 100000 in
theorem tree_expr.calls (k : Nat) (a0 : Int) (a1 : Int) (a2 : Int) (r : Bool) (w : World) (h : tree_expr.f k a0 a1 a2 = some r) :
    Calls Try.prog 76 #[.int .i64 a0, .int .i64 a1, .int .u8 a2] w fun e w' => e = .returned (.bool r) ∧ Drawn0 w w' := by
  have H : ((tree_Expression.f k a2).bind fun t349 => (some t349)) = some r := h
  clear h
  replace H := Option.bind_eq_some_iff.mp H
  obtain ⟨t349, A40, H⟩ := H
  replace H : (some t349) = some r := H
  have A4 := Aside0.mk A40
  clear A40
  obtain rfl := Option.some.inj H
  go_enter Try.func76, Try.ntmps76
  go_wp2_with (first | ((with_reducible refine gate_callee (f := 16) rfl ?_); refine goesL_ (some 8) rfl rfl Try.func16 (by kernel_rfl) rfl #[.int .u8 a2] rfl (by (try simp only [List.map_toArray, List.map_cons, List.map_nil]); first | done | rfl | (simp only [List.length_drop, List.length_take]; rfl)) ?_; (with_reducible refine (tree_Expression.calls k a2 t349 _ A4.out).mono ?_); rintro e w' ⟨rfl, ⟨nd, rfl⟩⟩; refine ⟨_, rfl, ?_⟩))
  go_ret
  exact ⟨by first | rfl | (simp; done) | (simp [*]; done), by repeat (first | exact Drawn0.refl _ | apply Drawn0.step)⟩
def tree_block.f (a0 : Int) (a1 : Int) (a2 : Int) : Option (Bool) := some (a2 == 3)
set_option maxHeartbeats 8000000 in
set_option maxRecDepth 100000 in
theorem tree_block.calls (a0 : Int) (a1 : Int) (a2 : Int) (r : Bool) (w : World) (h : tree_block.f a0 a1 a2 = some r) :
    Calls Try.prog 77 #[.int .i64 a0, .int .i64 a1, .int .u8 a2] w fun e w' => e = .returned (.bool r) ∧ Drawn0 w w' := by
  have H : (some (a2 == 3)) = some r := h
  clear h
  obtain rfl := Option.some.inj H
  go_enter Try.func77, Try.ntmps77
  go_wp2
  go_ret
  exact ⟨by first | rfl | (simp; done) | (simp [*]; done), by repeat (first | exact Drawn0.refl _ | apply Drawn0.step)⟩
end Go.Proofs.Ytlbchdalimngjaa.P
namespace Go.Proofs.Ytlbchdalimngjaa.P
open Go.RowKit Go.Proofs.YtlbchdalimngjaaW.PrintWords Go.Proofs.YtlbchdalimngjaaW.PrintLast Go.Proofs.YtlbchdalimngjaaW.PrintMore
open Go.Instr
attribute [local go_sem] max2_int min2_int max_two min_two max_three min_three max_four min_four
set_option linter.unusedVariables false
set_option linter.unusedSimpArgs false
def formOf (op : Int) : Option Form := (formTab 58).lookup op
def textOf (k : Nat) (f : Nat) (s : ByteArray) : Option Bool :=
  if f = 69 then tree_own.f k s else if f = 72 then tree_empty.f s else if f = 75 then tree_short.f s else none
def partOf (f : Nat) (i n op : Int) : Option Bool :=
  if f = 70 then tree_params.f i n op else if f = 71 then tree_nothing.f i n op else if f = 73 then tree_stmt.f i n op
  else if f = 74 then tree_headed.f 9 i n op else if f = 76 then tree_expr.f 9 i n op else if f = 77 then tree_block.f i n op else none
def partB (f : Nat) (i n op : Int) : Bool := (partOf f i n op).getD false
def tree_Check.bad (k : Nat) (x : S43) (p : Int → Bool) : Option Bool :=
  match formOf x.f0 with
  | none => some true
  | some f => if p x.f0 = true then ((textOf k f.tx x.f3).bind fun t => if t = true then
      (if x.f1 < f.le then some true else if x.f1 > f.mo then some true else if x.f0 = 23 then some (decide (x.f2 < 0)) else if x.f2 = 0 then some false else some true) else some true) else some true
mutual
def tree_Check.walk (l : List S43) : Nat → Int → Int → (Int → Bool) → Int → Int → Option (Int × Int × Int)
  | 0, _, _, _, _, _ => none
  | k + 1, at_, lv, p, wr, dp =>
    if at_ < (l.length : Int) then (if 0 ≤ at_ then
      ((tree_Check.bad k (rd_T43 l at_) p).bind fun b => if b = true then some (at_, at_, dp) else
        tree_Check.kids l k (rd_T43 l at_) (wrap64 (at_ + 1)) lv 0 wr (if lv > 40 then (if dp < 0 then at_ else dp) else dp)) else none)
    else some (at_, (l.length : Int), dp)
def tree_Check.kids (l : List S43) : Nat → S43 → Int → Int → Int → Int → Int → Option (Int × Int × Int)
  | 0, _, _, _, _, _, _ => none
  | k + 1, x, nx, lv, i, wr, dp =>
    if i < x.f1 then (if wr < 0 then
      ((tree_Check.walk l k nx (wrap64 (lv + 1)) (fun op => partB ((formOf x.f0).getD ⟨0, 0, 0, 0⟩).pt i x.f1 op) wr dp).bind fun q => tree_Check.kids l k x q.1 lv (wrap64 (i + 1)) q.2.1 q.2.2)
      else some (nx, wr, dp)) else some (nx, wr, dp)
end
def tree_Check.f (k : Nat) (l0 : List S43) : Option (Int × Int) :=
  if (l0.length : Int) > 2048 then some (0, 2) else
  (tree_Check.walk l0 k 0 1 (fun _ => true) (-1) (-1)).bind fun q =>
    if 0 ≤ q.2.1 then some (q.2.1, 3) else if q.1 < (l0.length : Int) then some (q.1, 3) else if 0 ≤ q.2.2 then some (q.2.2, 2) else some (0, 0)
theorem textOf_mono (k f : Nat) (s : ByteArray) : LeO (textOf k f s) (textOf (k + 1) f s) := by
  unfold textOf
  repeat' first | exact tree_own.mono _ _ | exact LeO.refl _ | refine LeO.ite ?_ ?_
theorem tree_Check.bad_mono (k : Nat) (x : S43) (p : Int → Bool) : LeO (tree_Check.bad k x p) (tree_Check.bad (k + 1) x p) := by
  unfold tree_Check.bad
  cases formOf x.f0 with
  | none => exact LeO.refl _
  | some f => exact LeO.ite (LeO.bind (textOf_mono _ _ _) (fun _ => LeO.refl _)) (LeO.refl _)
theorem tree_Check.both_mono (l : List S43) : ∀ k, (∀ a b p c d, LeO (tree_Check.walk l k a b p c d) (tree_Check.walk l (k + 1) a b p c d)) ∧ (∀ x a b c d e, LeO (tree_Check.kids l k x a b c d e) (tree_Check.kids l (k + 1) x a b c d e))
  | 0 => ⟨fun _ _ _ _ _ r h => by simp [tree_Check.walk] at h, fun _ _ _ _ _ _ r h => by simp [tree_Check.kids] at h⟩
  | k + 1 => by
    obtain ⟨ih1, ih2⟩ := tree_Check.both_mono l k
    refine ⟨fun a b p c d => ?_, fun x a b c d e => ?_⟩
    · rw [tree_Check.walk, tree_Check.walk]
      exact LeO.ite (LeO.ite (LeO.bind (tree_Check.bad_mono _ _ _) (fun _ => LeO.ite (LeO.refl _) (ih2 _ _ _ _ _ _))) (LeO.refl _)) (LeO.refl _)
    · rw [tree_Check.kids, tree_Check.kids]
      exact LeO.ite (LeO.ite (LeO.bind (ih1 _ _ _ _ _) (fun _ => ih2 _ _ _ _ _ _)) (LeO.refl _)) (LeO.refl _)
theorem tree_Check.mono : ∀ l0 k, LeO (tree_Check.f k l0) (tree_Check.f (k + 1) l0) := by
  intro l0 k
  unfold tree_Check.f
  exact LeO.ite (LeO.refl _) (LeO.bind ((tree_Check.both_mono l0 k).1 _ _ _ _ _) (fun _ => LeO.refl _))
def Enters (f : Nat) : Prop := ∀ (args : Array Value) (w : World), Sem.run Try.prog (callFunc f args) w = .ok (.enter f args) w
theorem enters_own : Enters 69 := enters_ Try.func69 (by kernel_rfl) rfl
theorem enters_empty : Enters 72 := enters_ Try.func72 (by kernel_rfl) rfl
theorem enters_short : Enters 75 := enters_ Try.func75 (by kernel_rfl) rfl
theorem enters_params : Enters 70 := enters_ Try.func70 (by kernel_rfl) rfl
theorem enters_nothing : Enters 71 := enters_ Try.func71 (by kernel_rfl) rfl
theorem enters_stmt : Enters 73 := enters_ Try.func73 (by kernel_rfl) rfl
theorem enters_headed : Enters 74 := enters_ Try.func74 (by kernel_rfl) rfl
theorem enters_expr : Enters 76 := enters_ Try.func76 (by kernel_rfl) rfl
theorem enters_block : Enters 77 := enters_ Try.func77 (by kernel_rfl) rfl
theorem enters_one : Enters 53 := enters_ Try.func53 (by kernel_rfl) rfl
theorem enters_two : Enters 54 := enters_ Try.func54 (by kernel_rfl) rfl
theorem enters_walk : Enters 52 := enters_ Try.func52 (by kernel_rfl) rfl
theorem text_enters {k f : Nat} {s : ByteArray} {r : Bool} (h : textOf k f s = some r) : Enters f := by
  unfold textOf at h
  split at h
  · rename_i e; subst e; exact enters_own
  split at h
  · rename_i e; subst e; exact enters_empty
  split at h
  · rename_i e; subst e; exact enters_short
  · cases h
theorem text_calls {k f : Nat} {s : ByteArray} {r : Bool} (w : World) (h : textOf k f s = some r) : Calls Try.prog f #[.string s] w fun e w' => e = .returned (.bool r) ∧ Drawn0 w w' := by
  unfold textOf at h
  split at h
  · rename_i e; subst e; exact tree_own.calls k s r w h
  split at h
  · rename_i e; subst e; exact tree_empty.calls s r w h
  split at h
  · rename_i e; subst e; exact tree_short.calls s r w h
  · cases h
theorem part_enters {f : Nat} {i n op : Int} {r : Bool} (h : partOf f i n op = some r) : Enters f := by
  unfold partOf at h
  split at h
  · rename_i e; subst e; exact enters_params
  split at h
  · rename_i e; subst e; exact enters_nothing
  split at h
  · rename_i e; subst e; exact enters_stmt
  split at h
  · rename_i e; subst e; exact enters_headed
  split at h
  · rename_i e; subst e; exact enters_expr
  split at h
  · rename_i e; subst e; exact enters_block
  · cases h
theorem part_calls {f : Nat} {i n op : Int} {r : Bool} (w : World) (h : partOf f i n op = some r) : Calls Try.prog f #[.int .i64 i, .int .i64 n, .int .u8 op] w fun e w' => e = .returned (.bool r) ∧ Drawn0 w w' := by
  unfold partOf at h
  split at h
  · rename_i e; subst e; exact tree_params.calls i n op r w h
  split at h
  · rename_i e; subst e; exact tree_nothing.calls i n op r w h
  split at h
  · rename_i e; subst e; exact tree_stmt.calls i n op r w h
  split at h
  · rename_i e; subst e; exact tree_headed.calls 9 i n op r w h
  split at h
  · rename_i e; subst e; exact tree_expr.calls 9 i n op r w h
  split at h
  · rename_i e; subst e; exact tree_block.calls i n op r w h
  · cases h
theorem expression_some (op : Int) : ∃ b, tree_Expression.f 9 op = some b := by
  unfold tree_Expression.f
  repeat' first | exact ⟨_, rfl⟩ | (simp only [tree_Expression.j0]; done) | (rw [tree_Expression.j0]) | (rw [tree_Expression.j1]) | split
theorem ite_ex {α : Type} {c : Prop} [Decidable c] {a b : Option α} (ha : ∃ r, a = some r) (hb : ∃ r, b = some r) : ∃ r, (if c then a else b) = some r := by split <;> assumption
theorem part_some {op : Int} {f : Form} (hf : formOf op = some f) (i n q : Int) : partOf f.pt i n q = some (partB f.pt i n q) := by
  have key : ∃ r, partOf f.pt i n q = some r := by
    have hm : f.pt ∈ [70, 71, 73, 74, 76, 77] := by
      have all : ∀ p ∈ formTab 58, p.2.pt ∈ [70, 71, 73, 74, 76, 77] := by decide +kernel
      unfold formOf at hf
      generalize formTab 58 = L at hf all
      induction L with
      | nil => cases hf
      | cons p L ih =>
        obtain ⟨a, g⟩ := p
        simp only [List.lookup] at hf
        split at hf
        · obtain rfl := Option.some.inj hf
          exact all _ List.mem_cons_self
        · exact ih hf (fun p hp => all p (List.mem_cons_of_mem _ hp))
    obtain ⟨b, hb⟩ := expression_some q
    simp only [List.mem_cons, List.not_mem_nil, or_false] at hm
    rcases hm with e | e | e | e | e | e <;> rw [e] <;> simp only [partOf, Nat.reduceEqDiff, if_true, if_false, ↓reduceIte] <;> simp only [tree_params.f, tree_nothing.f, tree_stmt.f, tree_headed.f, tree_expr.f, tree_block.f, tree_Statement.f, hb, Option.bind_some]
    · repeat' first | exact ⟨_, rfl⟩ | refine ite_ex ?_ ?_
    · exact ⟨_, rfl⟩
    · split <;> exact ⟨_, rfl⟩
    · repeat' first | exact ⟨_, rfl⟩ | refine ite_ex ?_ ?_
    · exact ⟨_, rfl⟩
    · exact ⟨_, rfl⟩
  obtain ⟨r, hr⟩ := key
  rw [partB, hr]
  rfl
def chkS (bw bd : Nat) (k : Nat) : Prop := k = bw ∨ k = bd
structure ChkEnv (w0 w : World) (l : List S43) (A : Option Addr) (c bt b bm bw bd bk : Nat) (wr dp : Int) : Prop where
  below : Below w0.heap.size w0 w
  row : Kd.C k43 w0 A l.length l
  cap : l.length ≤ c
  hbt : w.heap[bt]? = some (.cells #[.slice A l.length c] 36 (0, 0))
  hb : w.heap[b]? = some (formMap 58)
  hbm : w.heap[bm]? = some (.cells #[.map (some b)] 68 (0, 0))
  hbw : w.heap[bw]? = some (.cells #[.int .i64 wr] 3 (0, 0))
  hbd : w.heap[bd]? = some (.cells #[.int .i64 dp] 3 (0, 0))
  hbk : w.heap[bk]? = some (.cells #[.func (.func 52) #[] #[.pointer (some ⟨bt, 0, none⟩), .pointer (some ⟨bw, 0, none⟩), .pointer (some ⟨bm, 0, none⟩), .pointer (some ⟨bd, 0, none⟩), .pointer (some ⟨bk, 0, none⟩)]] 70 (0, 0))
  ord : w0.heap.size ≤ bt ∧ bt < b ∧ b < bm ∧ bm < bw ∧ bw < bd ∧ bd < bk
section
variable {w0 w W : World} {l : List S43} {A : Option Addr} {c bt b bm bw bd bk : Nat} {wr dp : Int}
theorem ChkEnv.lt (h : ChkEnv w0 w l A c bt b bm bw bd bk wr dp) : bk < w.heap.size := blk_lt h.hbk
theorem ChkEnv.move (h : ChkEnv w0 w l A c bt b bm bw bd bk wr dp) (hb : Below w.heap.size w W) : ChkEnv w0 W l A c bt b bm bw bd bk wr dp :=
  ⟨below_then h.below h.below.size hb, h.row, h.cap, blk_below h.hbt hb, blk_below h.hb hb, blk_below h.hbm hb, blk_below h.hbw hb, blk_below h.hbd hb, blk_below h.hbk hb, h.ord⟩
theorem ChkEnv.setw (h : ChkEnv w0 w l A c bt b bm bw bd bk wr dp) (x : Int) : ChkEnv w0 (w.setCell ⟨bw, 0, none⟩ (.int .i64 x)) l A c bt b bm bw bd bk x dp := by
  have o := h.ord
  exact ⟨h.below.setCell (by show w0.heap.size ≤ bw; omega) _, h.row, h.cap, obj_far h.hbt (by show bt ≠ bw; omega), obj_far h.hb (by show b ≠ bw; omega), obj_far h.hbm (by show bm ≠ bw; omega), blk_set h.hbw 0 _, obj_far h.hbd (by show bd ≠ bw; omega), obj_far h.hbk (by show bk ≠ bw; omega), o⟩
theorem ChkEnv.setd (h : ChkEnv w0 w l A c bt b bm bw bd bk wr dp) (x : Int) : ChkEnv w0 (w.setCell ⟨bd, 0, none⟩ (.int .i64 x)) l A c bt b bm bw bd bk wr x := by
  have o := h.ord
  exact ⟨h.below.setCell (by show w0.heap.size ≤ bd; omega) _, h.row, h.cap, obj_far h.hbt (by show bt ≠ bd; omega), obj_far h.hb (by show b ≠ bd; omega), obj_far h.hbm (by show bm ≠ bd; omega), obj_far h.hbw (by show bw ≠ bd; omega), blk_set h.hbd 0 _, obj_far h.hbk (by show bk ≠ bd; omega), o⟩
theorem ChkEnv.get (h : ChkEnv w0 w l A c bt b bm bw bd bk wr dp) :
    w.cell? ⟨bt, 0, none⟩ = some (.slice A l.length c) ∧ w.cell? ⟨bm, 0, none⟩ = some (.map (some b)) ∧ w.cell? ⟨bw, 0, none⟩ = some (.int .i64 wr) ∧ w.cell? ⟨bd, 0, none⟩ = some (.int .i64 dp) ∧
    w.cell? ⟨bk, 0, none⟩ = some (.func (.func 52) #[] #[.pointer (some ⟨bt, 0, none⟩), .pointer (some ⟨bw, 0, none⟩), .pointer (some ⟨bm, 0, none⟩), .pointer (some ⟨bd, 0, none⟩), .pointer (some ⟨bk, 0, none⟩)]) ∧
    w.frozen? ⟨bw, 0, none⟩ = false ∧ w.frozen? ⟨bd, 0, none⟩ = false :=
  ⟨(blk_cell h.hbt 0).trans rfl, (blk_cell h.hbm 0).trans rfl, (blk_cell h.hbw 0).trans rfl, (blk_cell h.hbd 0).trans rfl, (blk_cell h.hbk 0).trans rfl, blk_frozen h.hbw 0, blk_frozen h.hbd 0⟩
end
def May (w : World) (bw bd mf : Nat) (mcap : List Value) (p : Int → Bool) : Prop :=
  ∀ W, Kept w W (chkS bw bd) → ∀ op : Int, Calls Try.prog mf (Value.int .u8 op :: mcap).toArray W fun e W' => e = .returned (.bool (p op)) ∧ Drawn0 W W'
theorem may_two (w : World) (bw bd : Nat) : May w bw bd 54 [] (fun _ => true) := by
  intro W _ op
  go_enter Try.func54, Try.ntmps54
  go_wp2
  go_ret
  exact ⟨rfl, Drawn0.refl _⟩
theorem may_one {w : World} {bw bd bf bi bx : Nat} {f : Form} {i : Int} {x : S43} (hf : formOf x.f0 = some f) (hbf : w.heap[bf]? = some (.cells f.cells 73 (0, 0))) (hbi : w.heap[bi]? = some (.cells #[.int .i64 i] 3 (0, 0)))
    (hbx : w.heap[bx]? = some (.cells #[.int .u8 x.f0, .int .i64 x.f1, .int .i64 x.f2, .string x.f3] 43 (0, 0))) (n1 : ¬ chkS bw bd bf) (n2 : ¬ chkS bw bd bi) (n3 : ¬ chkS bw bd bx) :
    May w bw bd 53 [.pointer (some ⟨bf, 0, none⟩), .pointer (some ⟨bi, 0, none⟩), .pointer (some ⟨bx, 0, none⟩)] (fun op => partB ((formOf x.f0).getD ⟨0, 0, 0, 0⟩).pt i x.f1 op) := by
  intro W hk op
  have h1 : W.cell? ⟨bf, 3, none⟩ = some (.func (.func f.pt) #[] #[]) := (blk_cell (blk_kept hbf hk n1) 3).trans rfl
  have h2 : W.cell? ⟨bi, 0, none⟩ = some (.int .i64 i) := (blk_cell (blk_kept hbi hk n2) 0).trans rfl
  have h3 : W.cell? ⟨bx, 1, none⟩ = some (.int .i64 x.f1) := (blk_cell (blk_kept hbx hk n3) 1).trans rfl
  have hp := Aside0.mk (part_some hf i x.f1 op)
  have he : ∀ (args : Array Value) (w : World), Sem.run Try.prog (callFunc f.pt args) w = .ok (.enter f.pt args) w := part_enters hp.out
  have hu := Try.underlying73
  have hu2 := Try.underlying43
  rw [hf]
  show Calls _ _ _ _ fun e W' => e = .returned (.bool (partB f.pt i x.f1 op)) ∧ Drawn0 W W'
  clear hf hbf hbi hbx n1 n2 n3 hk
  go_enter Try.func53, Try.ntmps53
  go_wp2_with (first | ((with_reducible refine (part_calls _ hp.out).mono ?_); rintro e w' ⟨rfl, ⟨nd, rfl⟩⟩))
  go_ret
  exact ⟨rfl, ⟨_, rfl⟩⟩
theorem form_find (op : Int) : ∀ (L : List (Int × Form)) (i : Nat),
    (L.lookup op = none → findNow (.int .u8) (.int .u8 op) (formEnt i L) i = some none) ∧ (∀ f, L.lookup op = some f → ∃ j, findNow (.int .u8) (.int .u8 op) (formEnt i L) i = some (some (j, .agg f.cells)))
  | [], i => ⟨fun _ => rfl, fun f h => (by cases h)⟩
  | (a, g) :: L, i => by
    have ih := form_find op L (i + 1)
    simp only [List.lookup, formEnt, findNow, sameNow]
    cases h : op == a with
    | true => exact ⟨fun h => (by cases h), fun f hf => ⟨i, (by obtain rfl := Option.some.inj hf; simp)⟩⟩
    | false => simpa using ih
theorem form_not {op : Int} (h : formOf op = none) : findNow (.int .u8) (.int .u8 op) (formEnt 0 (formTab 58)).toArray.toList 0 = some none := (form_find op _ 0).1 h
theorem form_has {op : Int} {f : Form} (h : formOf op = some f) : ∃ j, findNow (.int .u8) (.int .u8 op) (formEnt 0 (formTab 58)).toArray.toList 0 = some (some (j, .agg f.cells)) := (form_find op _ 0).2 f h
theorem Below.chk {w W : World} {bw bd : Nat} (h : Below w.heap.size w W) : Kept w W (chkS bw bd) := Kept.of_below h _
theorem may_at {w : World} {bw bd mf : Nat} {mcap : List Value} {p : Int → Bool} (h : May w bw bd mf mcap p) {W : World} (hk : Kept w W (chkS bw bd)) (op : Int) : Calls Try.prog mf (Value.int .u8 op :: mcap).toArray W fun e W' => e = .returned (.bool (p op)) ∧ Drawn0 W W' := h W hk op
theorem mk_run (P : Program) (fn : Fn) (first cap : Array Value) (w : World) : (Instr.makeFunc fn first cap).run P w = .ok (.func fn first cap) w := rfl
theorem mk_events (P : Program) (fn : Fn) (first cap : Array Value) (w : World) (es : Array Event) : (Instr.makeFunc fn first cap).events P w es = es := rfl
end Go.Proofs.Ytlbchdalimngjaa.P
namespace Go.Proofs.Ytlbchdalimngjaa.Tree
open Go.RowKit Go.Proofs.YtlbchdalimngjaaW.PrintWords Go.Proofs.YtlbchdalimngjaaW.PrintLast Go.Proofs.Ytlbchdalimngjaa.P Go.Proofs.Ytlbchdalimngjaa.Lex
set_option linter.unusedVariables false
set_option linter.unusedSimpArgs false
def exprB (op : Int) : Bool := decide ((20 ≤ op ∧ op ≤ 26) ∨ (30 ≤ op ∧ op ≤ 48) ∨ (50 ≤ op ∧ op ≤ 57))
def stmtB (op : Int) : Bool := decide (4 ≤ op ∧ op ≤ 11)
def okOp (op : Int) : Bool := exprB op || stmtB op || decide (1 ≤ op ∧ op ≤ 3)
def namedB (op : Int) : Bool := decide (op = 1 ∨ op = 2 ∨ op = 4 ∨ op = 5 ∨ op = 26 ∨ op = 56 ∨ op = 50 ∨ op = 51)
def leastI (op : Int) : Int := (prompterref08_Least.f 9 op).getD 0
def mostI (op : Int) : Int := (prompterref08_Most.f 9 op).getD 0
theorem refexpr_is (op : Int) : prompterref08_Expression.f op = some (exprB op) := by
  unfold prompterref08_Expression.f exprB
  repeat' split
  all_goals (congr 1; first | (symm; exact decide_eq_true (by omega)) | (symm; exact decide_eq_false (by omega)) | exact decide_eq_decide.2 (by omega))
theorem refstmt_is (op : Int) : prompterref08_Statement.f op = some (stmtB op) := by
  unfold prompterref08_Statement.f stmtB
  repeat' split
  all_goals (congr 1; first | (symm; exact decide_eq_true (by omega)) | (symm; exact decide_eq_false (by omega)) | exact decide_eq_decide.2 (by omega))
theorem stmt_is (op : Int) : tree_Statement.f op = some (stmtB op) := refstmt_is op
theorem expr_is (op : Int) : tree_Expression.f 9 op = some (exprB op) := by
  have e0 : ∀ x b, tree_Expression.j0 9 x b = if b = true then some true else if x ≥ 30 then tree_Expression.j1 8 x (decide (x ≤ 48)) else tree_Expression.j1 8 x false := fun _ _ => rfl
  have e1 : ∀ x b, tree_Expression.j1 8 x b = if b = true then some true else if x ≥ 50 then (if x ≤ 57 then some true else some false) else some false := fun _ _ => rfl
  unfold tree_Expression.f exprB
  simp only [e0, e1, decide_eq_true_eq]
  repeat' split
  all_goals (congr 1; first | (symm; exact decide_eq_true (by omega)) | (symm; exact decide_eq_false (by omega)) | (exfalso; simp_all; done))
theorem named_is (op : Int) : prompterref08_named.f op = some (namedB op) := by
  unfold prompterref08_named.f namedB
  repeat' split
  all_goals (congr 1; first | (symm; exact decide_eq_true (by omega)) | (rw [Bool.eq_iff_iff]; simp; omega))
theorem ok_range {op : Int} (h : okOp op = true) : ∃ n : Nat, op = (n : Int) ∧ n < 58 := by
  unfold okOp exprB stmtB at h
  simp at h
  exact ⟨op.toNat, by omega, by omega⟩
theorem least_is {op : Int} (h : okOp op = true) : Ev (fun k => prompterref08_Least.f k op) (leastI op) ∧ 0 ≤ leastI op := by
  obtain ⟨n, rfl, hn⟩ := ok_range h
  have key : ∀ n : Nat, n < 58 → prompterref08_Least.f 9 (n : Int) = some (leastI (n : Int)) ∧ 0 ≤ leastI (n : Int) := by decide +kernel
  exact ⟨Ev.of (prompterref08_Least.mono _) (key n hn).1, (key n hn).2⟩
theorem most_is {op : Int} (h : okOp op = true) : Ev (fun k => prompterref08_Most.f k op) (mostI op) ∧ mostI op ≤ 3 := by
  obtain ⟨n, rfl, hn⟩ := ok_range h
  have key : ∀ n : Nat, n < 58 → prompterref08_Most.f 9 (n : Int) = some (mostI (n : Int)) ∧ mostI (n : Int) ≤ 3 := by decide +kernel
  exact ⟨Ev.of (prompterref08_Most.mono _) (key n hn).1, (key n hn).2⟩
def textB (op : Int) (s : ByteArray) (own : Bool) : Bool := if namedB op = true then own else if op = 24 then decide ((s.size : Int) ≤ 4095) else decide (s.toList = [])
def kidsB (op kids : Int) : Bool := decide (leastI op ≤ kids ∧ kids ≤ (if mostI op < 0 then 2048 else mostI op))
def intB (op v : Int) : Bool := decide (v = 0 ∨ (0 ≤ v ∧ op = 23))
def fineB (x : S43) (own : Bool) : Bool := okOp x.f0 && (textB x.f0 x.f3 own && (intB x.f0 x.f2 && kidsB x.f0 x.f1))
theorem fine_is (x : S43) (own : Bool) (h : Ev (fun k => prompterref08_Own.f k x.f3) own) : Ev (fun k => prompterref08_fine.f k x.f0 x.f1 x.f2 x.f3) (fineB x own) := by
  have no0 : Ev (fun k => prompterref08_fine.j0 k true x.f0 x.f1 x.f2 x.f3) false := Ev.step (f := fun _ => some false) (fun k => by show prompterref08_fine.j0 (k + 1) true _ _ _ _ = _; rw [prompterref08_fine.j0, if_pos rfl]) (Ev.now _)
  have no2 : Ev (fun k => prompterref08_fine.j2 k true x.f0 x.f1 x.f2 x.f3) false := Ev.step (f := fun _ => some false) (fun k => by show prompterref08_fine.j2 (k + 1) true _ _ _ _ = _; rw [prompterref08_fine.j2, if_pos rfl]) (Ev.now _)
  unfold fineB
  by_cases ho : okOp x.f0 = true
  · rw [ho, Bool.true_and]
    obtain ⟨hl, hl0⟩ := least_is ho
    obtain ⟨hm, hm3⟩ := most_is ho
    have kids : Ev (fun k => prompterref08_fine.j2 k false x.f0 x.f1 x.f2 x.f3) (kidsB x.f0 x.f1) := by
      refine Ev.step (f := fun k => (prompterref08_Least.f k x.f0).bind fun t396 => (if x.f1 ≥ t396 then ((prompterref08_Most.f k x.f0).bind fun t397 => (if t397 < 0 then (if x.f1 ≤ 2048 then (some true) else ((prompterref08_Most.f k x.f0).bind fun t398 => (some (decide (x.f1 ≤ t398))))) else ((prompterref08_Most.f k x.f0).bind fun t399 => (some (decide (x.f1 ≤ t399)))))) else (some false))) (fun k => ?_) (Ev.bind hl ?_)
      · show prompterref08_fine.j2 (k + 1) false _ _ _ _ = _
        rw [prompterref08_fine.j2, if_neg (by decide)]
      unfold kidsB
      by_cases h1 : x.f1 ≥ leastI x.f0
      · simp only [if_pos h1]
        refine Ev.bind hm ?_
        by_cases h2 : mostI x.f0 < 0
        · simp only [if_pos h2]
          by_cases h3 : x.f1 ≤ 2048
          · simp only [if_pos h3]
            rw [decide_eq_true ⟨h1, h3⟩]
            exact Ev.now _
          · simp only [if_neg h3]
            rw [decide_eq_false (fun y => h3 y.2)]
            refine Ev.bind hm ?_
            rw [decide_eq_false (by omega)]
            exact Ev.now _
        · simp only [if_neg h2]
          refine Ev.bind hm ?_
          have e : decide (leastI x.f0 ≤ x.f1 ∧ x.f1 ≤ mostI x.f0) = decide (x.f1 ≤ mostI x.f0) := decide_eq_decide.2 ⟨fun y => y.2, fun y => ⟨h1, y⟩⟩
          rw [e]
          exact Ev.now _
      · simp only [if_neg h1]
        rw [decide_eq_false (fun y => h1 y.1)]
        exact Ev.now _
    have ints : Ev (fun k => prompterref08_fine.j1 k x.f0 x.f1 x.f2 x.f3) (intB x.f0 x.f2 && kidsB x.f0 x.f1) := by
      unfold intB
      by_cases h1 : x.f2 < 0
      · rw [decide_eq_false (by omega), Bool.false_and]
        refine Ev.step (fun k => ?_) no2
        show prompterref08_fine.j1 (k + 1) _ _ _ _ = _
        rw [prompterref08_fine.j1, if_pos h1]
      by_cases h2 : x.f2 > 0
      · by_cases h3 : x.f0 = 23
        · rw [decide_eq_true (by omega), Bool.true_and]
          refine Ev.step (fun k => ?_) kids
          show prompterref08_fine.j1 (k + 1) _ _ _ _ = _
          rw [prompterref08_fine.j1, if_neg h1, if_pos h2, bne_eq_false_iff_eq.mpr h3]
        · rw [decide_eq_false (by omega), Bool.false_and]
          refine Ev.step (fun k => ?_) no2
          show prompterref08_fine.j1 (k + 1) _ _ _ _ = _
          rw [prompterref08_fine.j1, if_neg h1, if_pos h2, bne_iff_ne.mpr h3]
      · rw [decide_eq_true (by omega), Bool.true_and]
        refine Ev.step (fun k => ?_) kids
        show prompterref08_fine.j1 (k + 1) _ _ _ _ = _
        rw [prompterref08_fine.j1, if_neg h1, if_neg h2]
    have texts : Ev (fun k => prompterref08_fine.j0 k false x.f0 x.f1 x.f2 x.f3) (textB x.f0 x.f3 own && (intB x.f0 x.f2 && kidsB x.f0 x.f1)) := by
      unfold textB
      by_cases h1 : namedB x.f0 = true
      · rw [if_pos h1]
        refine Ev.step (f := fun k => (prompterref08_Own.f k x.f3).bind fun t395 => (if t395 = true then (prompterref08_fine.j1 k x.f0 x.f1 x.f2 x.f3) else (some false))) (fun k => ?_) (Ev.bind h ?_)
        · show prompterref08_fine.j0 (k + 1) false _ _ _ _ = _
          rw [prompterref08_fine.j0, if_neg (by decide), named_is, h1]
          rfl
        cases own with
        | true => rw [Bool.true_and]; exact Ev.congr (fun k => if_pos rfl) ints
        | false => rw [Bool.false_and]; exact Ev.congr (fun k => if_neg (by decide)) (Ev.now _)
      rw [if_neg h1]
      have hn : namedB x.f0 = false := Bool.eq_false_iff.mpr h1
      by_cases h2 : x.f0 = 24
      · rw [if_pos h2]
        by_cases h3 : (x.f3.size : Int) > 4095
        · rw [decide_eq_false (by omega), Bool.false_and]
          refine Ev.step (f := fun _ => some false) (fun k => ?_) (Ev.now _)
          show prompterref08_fine.j0 (k + 1) false _ _ _ _ = _
          rw [prompterref08_fine.j0, if_neg (by decide), named_is, hn]
          simp only [Option.bind_some, Bool.false_eq_true, if_false]
          rw [if_pos h2, if_pos h3]
        · rw [decide_eq_true (by omega), Bool.true_and]
          refine Ev.step (fun k => ?_) ints
          show prompterref08_fine.j0 (k + 1) false _ _ _ _ = _
          rw [prompterref08_fine.j0, if_neg (by decide), named_is, hn]
          simp only [Option.bind_some, Bool.false_eq_true, if_false]
          rw [if_pos h2, if_neg h3]
      rw [if_neg h2]
      by_cases h3 : x.f3.toList = []
      · rw [decide_eq_true h3, Bool.true_and]
        refine Ev.step (fun k => ?_) ints
        show prompterref08_fine.j0 (k + 1) false _ _ _ _ = _
        rw [prompterref08_fine.j0, if_neg (by decide), named_is, hn]
        simp only [Option.bind_some, Bool.false_eq_true, if_false]
        rw [if_neg h2, if_pos h3]
      · rw [decide_eq_false h3, Bool.false_and]
        refine Ev.step (f := fun _ => some false) (fun k => ?_) (Ev.now _)
        show prompterref08_fine.j0 (k + 1) false _ _ _ _ = _
        rw [prompterref08_fine.j0, if_neg (by decide), named_is, hn]
        simp only [Option.bind_some, Bool.false_eq_true, if_false]
        rw [if_neg h2, if_neg h3]
    refine Ev.congr (fun k => ?_) texts
    show prompterref08_fine.f k _ _ _ _ = _
    rw [prompterref08_fine.f, refexpr_is]
    unfold okOp at ho
    cases he : exprB x.f0 with
    | true => simp only [Option.bind_some, if_true]
    | false =>
      simp only [Option.bind_some, Bool.false_eq_true, if_false]
      rw [refstmt_is]
      cases hs : stmtB x.f0 with
      | true => simp only [Option.bind_some, if_true]
      | false =>
        simp only [Option.bind_some, Bool.false_eq_true, if_false]
        rw [he, hs] at ho
        simp at ho
        rw [if_neg (by omega), decide_eq_false (by omega)]
  · rw [Bool.eq_false_iff.mpr ho, Bool.false_and]
    refine Ev.congr (fun k => ?_) no0
    show prompterref08_fine.f k _ _ _ _ = _
    have ho' : okOp x.f0 = false := Bool.eq_false_iff.mpr ho
    unfold okOp at ho'
    simp only [Bool.or_eq_false_iff, decide_eq_false_iff_not] at ho'
    obtain ⟨⟨he, hs⟩, h3⟩ := ho'
    rw [prompterref08_fine.f, refexpr_is, he]
    simp only [Option.bind_some, Bool.false_eq_true, if_false]
    rw [refstmt_is, hs]
    simp only [Option.bind_some, Bool.false_eq_true, if_false]
    by_cases h1 : x.f0 < 1
    · rw [if_pos h1]
    · rw [if_neg h1, decide_eq_true (by omega)]
theorem lookup_mem {α : Type} [BEq α] [LawfulBEq α] {β : Type} {a : α} {b : β} : ∀ {L : List (α × β)}, L.lookup a = some b → (a, b) ∈ L
  | [], h => by cases h
  | (c, d) :: L, h => by
    rw [List.lookup] at h
    split at h
    · rename_i e
      rw [Option.some.inj h, eq_of_beq e]
      exact List.mem_cons_self
    · exact List.mem_cons_of_mem _ (lookup_mem h)
def txN (op : Int) : Nat := if namedB op = true then 69 else if op = 24 then 75 else 72
def ptOk (op : Int) (p : Nat) : Bool := if op = 1 then p == 70 else if op = 3 then p == 73 else if op = 6 ∨ op = 7 then p == 74 else if op = 53 then p == 77 else if mostI op = 0 then true else p == 76
theorem table : ∀ p ∈ formTab 58, okOp p.1 = true ∧ p.2.tx = txN p.1 ∧ p.2.le = leastI p.1 ∧ p.2.mo = (if mostI p.1 < 0 then 2048 else mostI p.1) ∧ ptOk p.1 p.2.pt = true := by decide +kernel
theorem form_of {op : Int} {f : P.Form} (h : formOf op = some f) : okOp op = true ∧ f.tx = txN op ∧ f.le = leastI op ∧ f.mo = (if mostI op < 0 then 2048 else mostI op) ∧ ptOk op f.pt = true := table (op, f) (lookup_mem h)
theorem form_no {op : Int} (h : formOf op = none) : okOp op = false := by
  cases ho : okOp op with
  | false => rfl
  | true =>
    obtain ⟨n, rfl, hn⟩ := ok_range ho
    have key : ∀ n : Nat, n < 58 → okOp (n : Int) = true → (formOf (n : Int)).isSome = true := by decide +kernel
    have := key n hn ho
    rw [h] at this
    cases this
theorem text_is2 {op : Int} {s : ByteArray} {own : Bool} (h : Ev (fun k => tree_own.f k s) own) : Ev (fun k => textOf k (txN op) s) (textB op s own) := by
  unfold textOf txN textB
  by_cases h1 : namedB op = true
  · simp only [if_pos h1, if_true]; exact h
  simp only [if_neg h1]
  by_cases h2 : op = 24
  · simp only [if_pos h2]
    exact Ev.congr (f := fun _ => some _) (fun k => rfl) (Ev.now _)
  · simp only [if_neg h2]
    refine Ev.congr (f := fun _ => some _) (fun k => ?_) (Ev.now _)
    show tree_empty.f s = _
    unfold tree_empty.f
    congr 1
    rw [Bool.eq_iff_iff]
    simp
theorem bad_is (x : S43) (own : Bool) (h : Ev (fun k => tree_own.f k x.f3) own) (p : Int → Bool) : Ev (fun k => tree_Check.bad k x p) (!(p x.f0 && fineB x own)) := by
  unfold tree_Check.bad fineB
  cases hf : formOf x.f0 with
  | none =>
    rw [form_no hf, Bool.false_and, Bool.and_false]
    exact Ev.now _
  | some f =>
    obtain ⟨ho, h1, h2, h3, _⟩ := form_of hf
    rw [ho, Bool.true_and]
    dsimp only
    by_cases hp : p x.f0 = true
    · simp only [if_pos hp]
      rw [hp, Bool.true_and, h1, h2, h3]
      refine Ev.bind (text_is2 h) ?_
      cases ht : textB x.f0 x.f3 own with
      | false => exact Ev.congr (fun k => if_neg (by decide)) (Ev.now _)
      | true =>
        rw [Bool.true_and]
        simp only [if_true]
        unfold intB kidsB
        refine Ev.congr (f := fun _ => some _) (fun k => ?_) (Ev.now _)
        repeat' split
        all_goals (congr 1; rw [Bool.eq_iff_iff]; simp; omega)
    · simp only [if_neg hp]
      rw [Bool.eq_false_iff.mpr hp, Bool.false_and]
      exact Ev.now _
end Go.Proofs.Ytlbchdalimngjaa.Tree
namespace Go.Proofs.Ytlbchdalimngjaa.Tree
open Go.RowKit Go.Proofs.YtlbchdalimngjaaW.PrintWords Go.Proofs.YtlbchdalimngjaaW.PrintLast Go.Proofs.Ytlbchdalimngjaa.P Go.Proofs.Ytlbchdalimngjaa.Lex
set_option linter.unusedVariables false
set_option linter.unusedSimpArgs false
def refPart (op i n q : Int) : Bool := if op = 1 then (if i = n - 1 then q == 3 else q == 2) else if op = 3 then stmtB q else if op = 6 ∨ op = 7 then (if i > 0 then q == 3 else exprB q) else if op = 53 then q == 3 else exprB q
theorem part_is (op i n q : Int) (hn : 0 ≤ n ∧ n ≤ 2048) : Ev (fun k => prompterref08_part.f k op i n q) (refPart op i n q) := by
  have ew : wrap64 (n - 1) = n - 1 := by unfold wrap64; omega
  unfold refPart
  by_cases h1 : op = 1
  · rw [if_pos h1]
    refine Ev.congr (f := fun _ => some _) (fun k => ?_) (Ev.now _)
    show prompterref08_part.f k _ _ _ _ = _
    rw [prompterref08_part.f, if_pos h1, ew]
    split <;> rfl
  rw [if_neg h1]
  by_cases h3 : op = 3
  · rw [if_pos h3]
    refine Ev.congr (f := fun _ => some _) (fun k => ?_) (Ev.now _)
    show prompterref08_part.f k _ _ _ _ = _
    rw [prompterref08_part.f, if_neg h1, if_pos h3, refstmt_is]
    rfl
  rw [if_neg h3]
  by_cases h6 : op = 6 ∨ op = 7
  · rw [if_pos h6]
    refine Ev.congr (f := fun k => prompterref08_part.j0 k i q op true) (fun k => ?_) (Ev.step (f := fun _ => some _) (fun k => ?_) (Ev.now _))
    · show prompterref08_part.f k _ _ _ _ = _
      rw [prompterref08_part.f, if_neg h1, if_neg h3]
      by_cases h : op = 6
      · rw [if_pos h, beq_iff_eq.mpr h]
      · rw [if_neg h, beq_iff_eq.mpr (show op = 7 by omega)]
    · show prompterref08_part.j0 (k + 1) _ _ _ _ = _
      rw [prompterref08_part.j0, if_pos rfl, refexpr_is]
      split <;> rfl
  · rw [if_neg h6]
    refine Ev.congr (f := fun k => prompterref08_part.j0 k i q op false) (fun k => ?_) (Ev.step (f := fun _ => some _) (fun k => ?_) (Ev.now _))
    · show prompterref08_part.f k _ _ _ _ = _
      rw [prompterref08_part.f, if_neg h1, if_neg h3, if_neg (by omega), beq_eq_false_iff_ne.mpr (show op ≠ 7 by omega)]
    · show prompterref08_part.j0 (k + 1) _ _ _ _ = _
      rw [prompterref08_part.j0, if_neg (by decide), refexpr_is]
      split <;> rfl
theorem partB_is {op : Int} {f : P.Form} (hf : formOf op = some f) (i n q : Int) (h0 : 0 ≤ i) (hi : i < n) (hk : kidsB op n = true) (hn : n ≤ 2048) : partB f.pt i n q = refPart op i n q := by
  obtain ⟨ho, _, _, _, hp⟩ := form_of hf
  have ew : wrap64 (n - 1) = n - 1 := by unfold wrap64; omega
  unfold ptOk at hp
  unfold partB refPart
  by_cases h1 : op = 1
  · rw [if_pos h1] at hp
    rw [eq_of_beq hp, if_pos h1]
    simp only [partOf, Nat.reduceEqDiff, if_true, if_false, tree_params.f, ew]
    by_cases h : i = n - 1
    · rw [if_neg (by omega), if_pos h, if_pos h]; rfl
    · rw [if_pos (by omega), if_neg h, if_neg h]
      by_cases hq : q = 2
      · rw [if_pos hq, beq_iff_eq.mpr hq]; rfl
      · rw [if_neg hq, beq_eq_false_iff_ne.mpr hq]; rfl
  rw [if_neg h1] at hp ⊢
  by_cases h3 : op = 3
  · rw [if_pos h3] at hp ⊢
    rw [eq_of_beq hp]
    simp only [partOf, Nat.reduceEqDiff, if_true, if_false, tree_stmt.f, stmt_is]
    rfl
  rw [if_neg h3] at hp ⊢
  by_cases h6 : op = 6 ∨ op = 7
  · rw [if_pos h6] at hp ⊢
    rw [eq_of_beq hp]
    simp only [partOf, Nat.reduceEqDiff, if_true, if_false, tree_headed.f, expr_is, Option.bind_some]
    by_cases h : i = 0
    · rw [if_pos h, h]
      cases exprB q <;> rfl
    · rw [if_neg h, if_pos (by omega), if_pos (by omega)]; rfl
  rw [if_neg h6] at hp ⊢
  by_cases h53 : op = 53
  · rw [if_pos h53] at hp ⊢
    rw [eq_of_beq hp]
    simp only [partOf, Nat.reduceEqDiff, if_true, if_false, tree_block.f]
    rfl
  rw [if_neg h53] at hp ⊢
  by_cases h0' : mostI op = 0
  · exfalso
    unfold kidsB at hk
    rw [h0'] at hk
    simp at hk
    omega
  rw [if_neg h0'] at hp
  rw [eq_of_beq hp]
  simp only [partOf, Nat.reduceEqDiff, if_true, if_false, tree_expr.f, expr_is, Option.bind_some]
  rfl
theorem rd85_last (st : List S85) (fr : S85) (h : st.length ≤ 5000) : rd_T85 (st ++ [fr]) (wrap64 (((st ++ [fr]).length : Int) - 1)) = fr := by
  have : wrap64 (((st ++ [fr]).length : Int) - 1) = (st.length : Int) := by rw [List.length_append, List.length_singleton]; unfold wrap64; omega
  rw [this, rd_T85, Int.toNat_natCast, List.getD_eq_getElem?_getD, List.getElem?_append_right (Nat.le_refl _), Nat.sub_self]
  rfl
theorem last_ok (st : List S85) (fr : S85) (h : st.length ≤ 5000) : ((st ++ [fr]).length : Int) > 0 ∧ 0 ≤ wrap64 (((st ++ [fr]).length : Int) - 1) ∧ wrap64 (((st ++ [fr]).length : Int) - 1) < ((st ++ [fr]).length : Int) ∧ (wrap64 (((st ++ [fr]).length : Int) - 1)).toNat = st.length := by
  have : wrap64 (((st ++ [fr]).length : Int) - 1) = (st.length : Int) := by rw [List.length_append, List.length_singleton]; unfold wrap64; omega
  rw [this, List.length_append, List.length_singleton]
  omega
theorem l1_stop (l : List S43) (st : List S85) (fr : S85) (h : st.length ≤ 5000) (hne : fr.f1 ≠ fr.f2) (dp : Int) (at_ : Nat) (ha : 1 ≤ at_ ∧ at_ ≤ 5000) (r : Int × Int) (hr : Ev (fun k => prompterref08_Check.l0 k l (st ++ [fr]) dp (at_ : Int)) r) :
    Ev (fun k => prompterref08_Check.l1 k l (st ++ [fr]) dp ((at_ : Int) - 1)) r := by
  obtain ⟨a, b, c, d⟩ := last_ok st fr h
  refine Ev.step (f := fun k => prompterref08_Check.j6 k l (st ++ [fr]) dp ((at_ : Int) - 1) false) (fun k => ?_) (Ev.step (fun k => ?_) hr)
  · show prompterref08_Check.l1 (k + 1) _ _ _ _ = _
    rw [prompterref08_Check.l1, if_pos a, if_pos b, if_pos c, rd85_last st fr h, beq_eq_false_iff_ne.mpr hne]
  · show prompterref08_Check.j6 (k + 1) _ _ _ _ _ = _
    rw [prompterref08_Check.j6, if_neg (by decide)]
    have : wrap64 ((at_ : Int) - 1 + 1) = (at_ : Int) := by unfold wrap64; omega
    rw [this]
theorem l1_pop (l : List S43) (st : List S85) (up fr : S85) (h : st.length ≤ 4000) (he : fr.f1 = fr.f2) (hw : 0 ≤ up.f1 ∧ up.f1 ≤ 5000) (dp at_ : Int) (r : Int × Int) (hr : Ev (fun k => prompterref08_Check.l1 k l (st ++ [⟨up.f0, up.f1 + 1, up.f2⟩]) dp at_) r) :
    Ev (fun k => prompterref08_Check.l1 k l (st ++ [up] ++ [fr]) dp at_) r := by
  have h2 : (st ++ [up]).length ≤ 5000 := by rw [List.length_append, List.length_singleton]; omega
  obtain ⟨a, b, c, d⟩ := last_ok (st ++ [up]) fr h2
  obtain ⟨a', b', c', d'⟩ := last_ok st up (by omega)
  refine Ev.step (f := fun k => prompterref08_Check.j6 k l (st ++ [up] ++ [fr]) dp at_ true) (fun k => ?_) (Ev.step (fun k => ?_) hr)
  · show prompterref08_Check.l1 (k + 1) _ _ _ _ = _
    rw [prompterref08_Check.l1, if_pos a, if_pos b, if_pos c, rd85_last (st ++ [up]) fr h2, beq_iff_eq.mpr he]
  · show prompterref08_Check.j6 (k + 1) _ _ _ _ _ = _
    rw [prompterref08_Check.j6, if_pos rfl, if_pos b, if_pos (Int.le_of_lt c), d, List.take_left]
    simp only [Option.bind_some]
    rw [if_pos a', if_pos b', if_pos c', rd85_last st up (by omega), d']
    have e1 : wrap64 (up.f1 + 1) = up.f1 + 1 := by unfold wrap64; omega
    have e2 : (st ++ [up]).set st.length ⟨up.f0, wrap64 (up.f1 + 1), up.f2⟩ = st ++ [⟨up.f0, up.f1 + 1, up.f2⟩] := by
      rw [e1, List.set_append_right _ _ (Nat.le_refl _), Nat.sub_self]
      rfl
    rw [e2]
theorem l1_last (l : List S43) (fr : S85) (he : fr.f1 = fr.f2) (dp : Int) (at_ : Nat) (ha : 1 ≤ at_ ∧ at_ ≤ 5000) (r : Int × Int) (hr : Ev (fun k => prompterref08_Check.l0 k l [] dp (at_ : Int)) r) :
    Ev (fun k => prompterref08_Check.l1 k l [fr] dp ((at_ : Int) - 1)) r := by
  have w : wrap64 (((([fr] : List S85).length : Nat) : Int) - 1) = 0 := by unfold wrap64; simp
  refine Ev.step (f := fun k => prompterref08_Check.j6 k l [fr] dp ((at_ : Int) - 1) true) (fun k => ?_) (Ev.step (f := fun k => prompterref08_Check.l1 k l [] dp ((at_ : Int) - 1)) (fun k => ?_) (Ev.step (f := fun k => prompterref08_Check.j6 k l [] dp ((at_ : Int) - 1) false) (fun k => ?_) (Ev.step (fun k => ?_) hr)))
  · show prompterref08_Check.l1 (k + 1) _ _ _ _ = _
    rw [prompterref08_Check.l1, w, if_pos (by simp), if_pos (by decide), if_pos (by simp)]
    have : rd_T85 [fr] 0 = fr := rfl
    rw [this, beq_iff_eq.mpr he]
  · show prompterref08_Check.j6 (k + 1) _ _ _ _ _ = _
    rw [prompterref08_Check.j6, if_pos rfl, w, if_pos (by decide), if_pos (by simp)]
    rfl
  · show prompterref08_Check.l1 (k + 1) _ _ _ _ = _
    rw [prompterref08_Check.l1, if_neg (by simp)]
  · show prompterref08_Check.j6 (k + 1) _ _ _ _ _ = _
    rw [prompterref08_Check.j6, if_neg (by decide)]
    have : wrap64 ((at_ : Int) - 1 + 1) = (at_ : Int) := by unfold wrap64; omega
    rw [this]
end Go.Proofs.Ytlbchdalimngjaa.Tree
namespace Go.Proofs.Ytlbchdalimngjaa.Tree
open Go.RowKit Go.Proofs.YtlbchdalimngjaaW.PrintWords Go.Proofs.YtlbchdalimngjaaW.PrintLast Go.Proofs.Ytlbchdalimngjaa.P Go.Proofs.Ytlbchdalimngjaa.Lex
set_option linter.unusedVariables false
set_option linter.unusedSimpArgs false
def topP (st : List S85) (q : Int) : Bool := match st.getLast? with
  | none => true
  | some fr => refPart fr.f0 fr.f1 fr.f2 q
def done (x : S43) : S85 := ⟨x.f0, x.f1, x.f1⟩
theorem topP_snoc (st : List S85) (fr : S85) (q : Int) : topP (st ++ [fr]) q = refPart fr.f0 fr.f1 fr.f2 q := by
  unfold topP
  rw [List.getLast?_append]
  rfl
def Goes (l : List S43) (w : Int × Int × Int) (low : Nat) (fin : List S85) (start : Nat → Option (Int × Int)) : Prop :=
  (0 ≤ w.2.1 ∧ Ev start (w.2.1, 3)) ∨ (w.2.1 = -1 ∧ ∃ m : Nat, w.1 = (m : Int) ∧ low ≤ m ∧ m ≤ l.length ∧ ∀ r, Ev (fun k => prompterref08_Check.l1 k l fin w.2.2 ((m : Int) - 1)) r → Ev start r)
def WalkOk (l : List S43) (n : Nat) : Prop := ∀ (at_ : Nat) (p : Int → Bool) (dp : Int) (st : List S85), l.length - at_ < n → at_ ≤ l.length → st.length ≤ at_ → (0 < at_ → st ≠ []) → (∀ q, p q = topP st q) → (∀ fr, st.getLast? = some fr → 0 ≤ fr.f2 ∧ fr.f2 ≤ 2048) →
  ∃ w, Ev (fun k => tree_Check.walk l k (at_ : Int) ((st.length : Int) + 1) p (-1) dp) w ∧ Goes l w (at_ + 1) (st ++ [done (rd_T43 l (at_ : Int))]) (fun k => prompterref08_Check.l0 k l st dp (at_ : Int))
def KidsOk (l : List S43) (n : Nat) : Prop := ∀ (nx : Nat) (x : S43) (i : Nat) (dp : Int) (st : List S85), l.length - nx < n → nx ≤ l.length → 1 ≤ nx → st.length < nx → (i : Int) ≤ x.f1 → x.f1 ≤ 2048 → (∃ f, formOf x.f0 = some f) → kidsB x.f0 x.f1 = true →
  ∃ w, Ev (fun k => tree_Check.kids l k x (nx : Int) ((st.length : Int) + 1) (i : Int) (-1) dp) w ∧ Goes l w nx (st ++ [done x]) (fun k => prompterref08_Check.l1 k l (st ++ [⟨x.f0, (i : Int), x.f1⟩]) dp ((nx : Int) - 1))
theorem kids_ok {l : List S43} (hl : l.length ≤ 2048) {n : Nat} (A : WalkOk l (n + 1)) (B : KidsOk l n) : KidsOk l (n + 1) := by
  intro nx x i dp st hn hle h1 hst hi h2048 hform hkids
  by_cases hend : (i : Int) < x.f1
  · obtain ⟨f, hf⟩ := hform
    have hp : ∀ q, (fun op => partB ((formOf x.f0).getD ⟨0, 0, 0, 0⟩).pt (i : Int) x.f1 op) q = topP (st ++ [⟨x.f0, (i : Int), x.f1⟩]) q := by
      intro q
      rw [topP_snoc, hf]
      exact partB_is hf (i : Int) x.f1 q (by omega) hend hkids h2048
    obtain ⟨w, hw, hg⟩ := A nx (fun op => partB ((formOf x.f0).getD ⟨0, 0, 0, 0⟩).pt (i : Int) x.f1 op) dp (st ++ [⟨x.f0, (i : Int), x.f1⟩]) hn hle (by rw [List.length_append, List.length_singleton]; omega) (fun _ => by simp) hp (by
      intro fr hfr
      rw [List.getLast?_append] at hfr
      have : (⟨x.f0, (i : Int), x.f1⟩ : S85) = fr := by simpa using hfr
      rw [← this]
      dsimp only
      omega)
    have ew : wrap64 (((st.length : Int) + 1) + 1) = (((st ++ [(⟨x.f0, (i : Int), x.f1⟩ : S85)]).length : Nat) : Int) + 1 := by rw [List.length_append, List.length_singleton, w64 (by omega) (by omega)]; omega
    have ei : wrap64 ((i : Int) + 1) = ((i + 1 : Nat) : Int) := w64 (by omega) (by omega)
    have kstep : ∀ v, Ev (fun k => tree_Check.kids l k x w.1 ((st.length : Int) + 1) ((i + 1 : Nat) : Int) w.2.1 w.2.2) v → Ev (fun k => tree_Check.kids l k x (nx : Int) ((st.length : Int) + 1) (i : Int) (-1) dp) v := by
      intro v hv
      refine Ev.step (f := fun k => (tree_Check.walk l k (nx : Int) (wrap64 (((st.length : Int) + 1) + 1)) (fun op => partB ((formOf x.f0).getD ⟨0, 0, 0, 0⟩).pt (i : Int) x.f1 op) (-1) dp).bind fun q => tree_Check.kids l k x q.1 ((st.length : Int) + 1) (wrap64 ((i : Int) + 1)) q.2.1 q.2.2) (fun k => ?_) ?_
      · show tree_Check.kids l (k + 1) _ _ _ _ _ _ = _
        rw [tree_Check.kids, if_pos hend, if_pos (by decide)]
      · rw [ew, ei]
        exact Ev.bind hw hv
    have ref1 : ∀ r, Ev (fun k => prompterref08_Check.l0 k l (st ++ [⟨x.f0, (i : Int), x.f1⟩]) dp (nx : Int)) r → Ev (fun k => prompterref08_Check.l1 k l (st ++ [⟨x.f0, (i : Int), x.f1⟩]) dp ((nx : Int) - 1)) r :=
      fun r hr => l1_stop l st ⟨x.f0, (i : Int), x.f1⟩ (by omega) (by show (i : Int) ≠ x.f1; omega) dp nx ⟨h1, by omega⟩ r hr
    rcases hg with ⟨g1, g2⟩ | ⟨g1, m, g2, g3, g4, g5⟩
    · refine ⟨w, kstep w ?_, .inl ⟨g1, ref1 _ g2⟩⟩
      refine Ev.step (f := fun _ => some w) (fun k => ?_) (Ev.now _)
      show tree_Check.kids l (k + 1) _ _ _ _ _ _ = _
      rw [tree_Check.kids]
      split
      · rw [if_neg (by omega)]
      · rfl
    · obtain ⟨v, hv, hgv⟩ := B m x (i + 1) w.2.2 st (by omega) g4 (by omega) (by omega) (by omega) h2048 ⟨f, hf⟩ hkids
      have back : ∀ r, Ev (fun k => prompterref08_Check.l1 k l (st ++ [⟨x.f0, ((i + 1 : Nat) : Int), x.f1⟩]) w.2.2 ((m : Int) - 1)) r → Ev (fun k => prompterref08_Check.l1 k l (st ++ [⟨x.f0, (i : Int), x.f1⟩]) dp ((nx : Int) - 1)) r := by
        intro r hr
        refine ref1 r (g5 r ?_)
        exact l1_pop l st ⟨x.f0, (i : Int), x.f1⟩ (done (rd_T43 l (nx : Int))) (by omega) rfl ⟨by show (0 : Int) ≤ (i : Int); omega, by show (i : Int) ≤ 5000; omega⟩ w.2.2 _ r hr
      refine ⟨v, kstep v (by rw [g1, g2]; exact hv), ?_⟩
      rcases hgv with ⟨q1, q2⟩ | ⟨q1, m2, q2, q3, q4, q5⟩
      · exact .inl ⟨q1, back _ q2⟩
      · exact .inr ⟨q1, m2, q2, by omega, q4, fun r hr => back r (q5 r hr)⟩
  · have hi2 : (i : Int) = x.f1 := by omega
    refine ⟨((nx : Int), -1, dp), Ev.step (f := fun _ => some _) (fun k => ?_) (Ev.now _), .inr ⟨rfl, nx, rfl, Nat.le_refl _, hle, fun r hr => ?_⟩⟩
    · show tree_Check.kids l (k + 1) _ _ _ _ _ _ = _
      rw [tree_Check.kids, if_neg hend]
    · rw [hi2]
      exact hr
theorem walk_ok {l : List S43} (hl : l.length ≤ 2048) {n : Nat} (B : KidsOk l n) : WalkOk l (n + 1) := by
  intro at_ p dp st hn hle hst hne hp htop
  by_cases hat : at_ < l.length
  · obtain ⟨x, hx⟩ : ∃ x, x = rd_T43 l (at_ : Int) := ⟨_, rfl⟩
    rw [← hx]
    obtain ⟨own, ho1, ho2⟩ := own_both x.f3
    have hbad := bad_is x own ho1 p
    have hfine := fine_is x own ho2
    have verdict : ∀ r, Ev (fun k => prompterref08_Check.j1 k l st dp (at_ : Int) (!fineB x own) x.f0 x.f1 x.f2 x.f3) r → Ev (fun k => prompterref08_Check.l0 k l st dp (at_ : Int)) r := by
      intro r hr
      refine Ev.step (f := fun k => (prompterref08_fine.f k x.f0 x.f1 x.f2 x.f3).bind fun t405 => prompterref08_Check.j1 k l st dp (at_ : Int) (!t405) x.f0 x.f1 x.f2 x.f3) (fun k => ?_) (Ev.bind hfine hr)
      show prompterref08_Check.l0 (k + 1) _ _ _ _ = _
      rw [prompterref08_Check.l0, if_pos (by omega), if_pos (by omega), ← hx]
      by_cases h0 : 0 < at_
      · have : 0 < st.length := List.length_pos_iff.2 (hne h0)
        rw [if_pos (by omega), if_neg (by omega)]
      · rw [if_neg (by omega)]
    have wrong : Ev (fun k => prompterref08_Check.j1 k l st dp (at_ : Int) true x.f0 x.f1 x.f2 x.f3) ((at_ : Int), 3) := by
      refine Ev.step (f := fun _ => some _) (fun k => ?_) (Ev.now _)
      show prompterref08_Check.j1 (k + 1) _ _ _ _ _ _ _ _ _ = _
      rw [prompterref08_Check.j1, if_pos rfl]
    have parts : ∀ r, Ev (fun k => if topP st x.f0 = true then prompterref08_Check.j2 k l st dp (at_ : Int) x.f0 x.f1 x.f2 x.f3 else some ((at_ : Int), 3)) r → Ev (fun k => prompterref08_Check.j1 k l st dp (at_ : Int) false x.f0 x.f1 x.f2 x.f3) r := by
      intro r hr
      rcases List.eq_nil_or_concat st with hs | ⟨st', fr, hs⟩
      · subst hs
        refine Ev.step (fun k => ?_) hr
        show prompterref08_Check.j1 (k + 1) _ _ _ _ _ _ _ _ _ = _
        rw [prompterref08_Check.j1, if_neg (by decide), if_neg (by simp)]
        exact (if_pos rfl).symm
      · rw [List.concat_eq_append] at hs
        subst hs
        have hlen : st'.length ≤ 5000 := by rw [List.length_append, List.length_singleton] at hst; omega
        obtain ⟨a, b, c, d⟩ := last_ok st' fr hlen
        rw [topP_snoc] at hr
        have hfr := htop fr (by rw [List.getLast?_append]; rfl)
        refine Ev.step (f := fun k => (prompterref08_part.f k fr.f0 fr.f1 fr.f2 x.f0).bind fun t409 => (if t409 = true then (prompterref08_Check.j2 k l (st' ++ [fr]) dp (at_ : Int) x.f0 x.f1 x.f2 x.f3) else (some ((at_ : Int), 3)))) (fun k => ?_) (Ev.bind (part_is fr.f0 fr.f1 fr.f2 x.f0 hfr) hr)
        show prompterref08_Check.j1 (k + 1) _ _ _ _ _ _ _ _ _ = _
        rw [prompterref08_Check.j1, if_neg (by decide), if_pos a, if_pos b, if_pos c, rd85_last st' fr hlen]
    have wstep : ∀ v (bv : Bool), Ev (fun k => tree_Check.bad k x p) bv → Ev (fun k => if bv = true then some ((at_ : Int), (at_ : Int), dp) else tree_Check.kids l k x ((at_ + 1 : Nat) : Int) ((st.length : Int) + 1) 0 (-1) (if (st.length : Int) + 1 > 40 then (if dp < 0 then (at_ : Int) else dp) else dp)) v →
        Ev (fun k => tree_Check.walk l k (at_ : Int) ((st.length : Int) + 1) p (-1) dp) v := by
      intro v bv hb hv
      refine Ev.step (f := fun k => (tree_Check.bad k x p).bind fun b => if b = true then some ((at_ : Int), (at_ : Int), dp) else tree_Check.kids l k x ((at_ + 1 : Nat) : Int) ((st.length : Int) + 1) 0 (-1) (if (st.length : Int) + 1 > 40 then (if dp < 0 then (at_ : Int) else dp) else dp)) (fun k => ?_) (Ev.bind hb hv)
      show tree_Check.walk l (k + 1) _ _ _ _ _ = _
      rw [tree_Check.walk, if_pos (by omega), if_pos (by omega), ← hx, w64 (by omega) (by omega)]
      rfl
    cases hf : fineB x own with
    | false =>
      rw [hf, Bool.and_false] at hbad
      refine ⟨((at_ : Int), (at_ : Int), dp), wstep _ true hbad (Ev.congr (fun k => if_pos rfl) (Ev.now _)), .inl ⟨by show (0 : Int) ≤ (at_ : Int); omega, verdict _ (by rw [hf]; exact wrong)⟩⟩
    | true =>
      rw [hf, Bool.and_true, hp] at hbad
      cases ht : topP st x.f0 with
      | false =>
        rw [ht] at hbad
        refine ⟨((at_ : Int), (at_ : Int), dp), wstep _ true hbad (Ev.congr (fun k => if_pos rfl) (Ev.now _)), .inl ⟨by show (0 : Int) ≤ (at_ : Int); omega, verdict _ (by rw [hf]; exact parts _ (by rw [ht]; exact Ev.congr (fun k => if_neg (by decide)) (Ev.now _)))⟩⟩
      | true =>
        rw [ht] at hbad
        unfold fineB at hf
        simp only [Bool.and_eq_true] at hf
        obtain ⟨hok, _, _, hkids⟩ := hf
        have hform : ∃ f, formOf x.f0 = some f := by
          cases h : formOf x.f0 with
          | some f => exact ⟨f, rfl⟩
          | none => rw [form_no h] at hok; cases hok
        have hk2 := hkids
        unfold kidsB at hk2
        have hk3 := of_decide_eq_true hk2
        have hl0 := (least_is hok).2
        have hm3 := (most_is hok).2
        have h0 : (0 : Int) ≤ x.f1 := by omega
        have h2048 : x.f1 ≤ 2048 := by
          have := hk3.2
          split at this <;> omega
        obtain ⟨dq, hdq⟩ : ∃ dq, dq = (if (st.length : Int) + 1 > 40 then (if dp < 0 then (at_ : Int) else dp) else dp) := ⟨_, rfl⟩
        obtain ⟨v, hv, hg⟩ := B (at_ + 1) x 0 dq st (by omega) (by omega) (by omega) (by omega) h0 h2048 hform hkids
        refine ⟨v, wstep v false hbad (Ev.congr (fun k => if_neg (by decide)) (by rw [← hdq]; exact hv)), ?_⟩
        have enter : ∀ r, Ev (fun k => prompterref08_Check.l1 k l (st ++ [⟨x.f0, ((0 : Nat) : Int), x.f1⟩]) dq (((at_ + 1 : Nat) : Int) - 1)) r → Ev (fun k => prompterref08_Check.l0 k l st dp (at_ : Int)) r := by
          intro r hr
          refine verdict r ?_
          have hfb : fineB x own = true := by unfold fineB; simp only [Bool.and_eq_true]; exact ⟨hok, ‹_›, ‹_›, hkids⟩
          rw [hfb]
          refine parts r ?_
          rw [ht]
          refine Ev.congr (fun k => if_pos rfl) ?_
          have e1 : (((at_ + 1 : Nat) : Int) - 1) = (at_ : Int) := by omega
          rw [e1] at hr
          have push : Ev (fun k => prompterref08_Check.j4 k l st dq (at_ : Int) x.f0 x.f1 x.f2 x.f3) r := by
            refine Ev.step (fun k => ?_) hr
            show prompterref08_Check.j4 (k + 1) _ _ _ _ _ _ _ _ = _
            rw [prompterref08_Check.j4, if_pos (by omega)]
            rfl
          refine Ev.step (f := fun k => prompterref08_Check.j3 k l st dp (at_ : Int) (decide (dp < 0 ∧ (st.length : Int) ≥ 40)) x.f0 x.f1 x.f2 x.f3) (fun k => ?_) (Ev.step (fun k => ?_) push)
          · show prompterref08_Check.j2 (k + 1) _ _ _ _ _ _ _ _ = _
            rw [prompterref08_Check.j2]
            by_cases hd : dp < 0
            · rw [if_pos hd]
              congr 1
              exact decide_eq_decide.2 ⟨fun y => ⟨hd, y⟩, fun y => y.2⟩
            · rw [if_neg hd, decide_eq_false (fun y => hd y.1)]
          · show prompterref08_Check.j3 (k + 1) _ _ _ _ _ _ _ _ _ = _
            rw [prompterref08_Check.j3]
            by_cases hd : dp < 0 ∧ (st.length : Int) ≥ 40
            · rw [decide_eq_true hd, if_pos rfl, hdq, if_pos (by omega), if_pos hd.1]
            · rw [decide_eq_false hd, if_neg (by decide), hdq]
              congr 1
              split
              · rw [if_neg (by omega)]
              · rfl
        rcases hg with ⟨q1, q2⟩ | ⟨q1, m2, q2, q3, q4, q5⟩
        · exact .inl ⟨q1, enter _ q2⟩
        · exact .inr ⟨q1, m2, q2, q3, q4, fun r hr => enter r (q5 r hr)⟩
  · have he : at_ = l.length := by omega
    refine ⟨((at_ : Int), (l.length : Int), dp), Ev.step (f := fun _ => some _) (fun k => ?_) (Ev.now _), .inl ⟨by show (0 : Int) ≤ (l.length : Int); omega, ?_⟩⟩
    · show tree_Check.walk l (k + 1) _ _ _ _ _ = _
      rw [tree_Check.walk, if_neg (by omega)]
    · have j7 : Ev (fun k => prompterref08_Check.j7 k l dp true) ((l.length : Int), 3) := by
        refine Ev.step (f := fun _ => some _) (fun k => ?_) (Ev.now _)
        show prompterref08_Check.j7 (k + 1) _ _ _ = _
        rw [prompterref08_Check.j7, if_pos rfl]
      refine Ev.step (fun k => ?_) j7
      show prompterref08_Check.l0 (k + 1) _ _ _ _ = _
      rw [prompterref08_Check.l0, if_neg (by omega)]
      by_cases h0 : (l.length : Int) = 0
      · rw [if_pos h0]
      · have : 0 < st.length := List.length_pos_iff.2 (hne (by omega))
        rw [if_neg h0, decide_eq_true (by omega)]
theorem both_ok {l : List S43} (hl : l.length ≤ 2048) : ∀ n, WalkOk l n ∧ KidsOk l n
  | 0 => ⟨fun _ _ _ _ h => absurd h (Nat.not_lt_zero _), fun _ _ _ _ _ h => absurd h (Nat.not_lt_zero _)⟩
  | n + 1 => by
    obtain ⟨_, B⟩ := both_ok hl n
    have A := walk_ok hl B
    exact ⟨A, kids_ok hl A B⟩
theorem check_both (l : List S43) : ∃ r, Ev (fun k => tree_Check.f k l) r ∧ Ev (fun k => prompterref08_Check.f k l) r := by
  by_cases h : (l.length : Int) > 2048
  · refine ⟨(0, 2), Ev.congr (fun k => ?_) (Ev.now _), Ev.congr (fun k => ?_) (Ev.now _)⟩
    · show tree_Check.f k l = _
      rw [tree_Check.f, if_pos h]
    · show prompterref08_Check.f k l = _
      rw [prompterref08_Check.f, if_pos h]
  obtain ⟨w, hw, hg⟩ := (both_ok (show l.length ≤ 2048 by omega) (l.length + 1)).1 0 (fun _ => true) (-1) [] (by omega) (by omega) (by simp) (by simp) (fun q => rfl) (by simp)
  have ref : ∀ r, Ev (fun k => prompterref08_Check.l0 k l [] (-1) 0) r → Ev (fun k => prompterref08_Check.f k l) r := by
    intro r hr
    refine Ev.congr (fun k => ?_) hr
    show prompterref08_Check.f k l = _
    rw [prompterref08_Check.f, if_neg h]
  have tr : ∀ r, (if 0 ≤ w.2.1 then some (w.2.1, (3 : Int)) else if w.1 < (l.length : Int) then some (w.1, 3) else if 0 ≤ w.2.2 then some (w.2.2, 2) else some (0, 0)) = some r → Ev (fun k => tree_Check.f k l) r := by
    intro r hr
    refine Ev.congr (f := fun k => (tree_Check.walk l k 0 1 (fun _ => true) (-1) (-1)).bind fun q => if 0 ≤ q.2.1 then some (q.2.1, 3) else if q.1 < (l.length : Int) then some (q.1, 3) else if 0 ≤ q.2.2 then some (q.2.2, 2) else some (0, 0)) (fun k => ?_) (Ev.bind hw ?_)
    · show tree_Check.f k l = _
      rw [tree_Check.f, if_neg h]
    · rw [hr]
      exact Ev.now _
  rcases hg with ⟨g1, g2⟩ | ⟨g1, m, g2, g3, g4, g5⟩
  · exact ⟨(w.2.1, 3), tr _ (if_pos g1), ref _ g2⟩
  · have last : ∀ r, Ev (fun k => prompterref08_Check.l0 k l [] w.2.2 (m : Int)) r → Ev (fun k => prompterref08_Check.f k l) r := fun r hr => ref r (g5 r (l1_last l _ rfl w.2.2 m ⟨by omega, by omega⟩ r hr))
    by_cases hm : m < l.length
    · refine ⟨((m : Int), 3), tr _ (by rw [if_neg (by omega), if_pos (by omega), g2]), last _ ?_⟩
      refine Ev.step (f := fun k => prompterref08_Check.j1 k l [] w.2.2 (m : Int) true (rd_T43 l (m : Int)).f0 (rd_T43 l (m : Int)).f1 (rd_T43 l (m : Int)).f2 (rd_T43 l (m : Int)).f3) (fun k => ?_) (Ev.step (f := fun _ => some _) (fun k => ?_) (Ev.now _))
      · show prompterref08_Check.l0 (k + 1) _ _ _ _ = _
        rw [prompterref08_Check.l0, if_pos (by omega), if_pos (by omega), if_pos (by omega), if_pos (by simp)]
      · show prompterref08_Check.j1 (k + 1) _ _ _ _ _ _ _ _ _ = _
        rw [prompterref08_Check.j1, if_pos rfl]
    · have j7 : ∀ r, Ev (fun k => prompterref08_Check.j7 k l w.2.2 false) r → Ev (fun k => prompterref08_Check.l0 k l [] w.2.2 (m : Int)) r := by
        intro r hr
        refine Ev.step (fun k => ?_) hr
        show prompterref08_Check.l0 (k + 1) _ _ _ _ = _
        rw [prompterref08_Check.l0, if_neg (by omega), if_neg (by omega), decide_eq_false (by simp)]
      by_cases hd : 0 ≤ w.2.2
      · refine ⟨(w.2.2, 2), tr _ (by rw [if_neg (by omega), if_neg (by omega), if_pos hd]), last _ (j7 _ (Ev.step (f := fun _ => some _) (fun k => ?_) (Ev.now _)))⟩
        show prompterref08_Check.j7 (k + 1) _ _ _ = _
        rw [prompterref08_Check.j7, if_neg (by decide), if_pos hd]
      · refine ⟨(0, 0), tr _ (by rw [if_neg (by omega), if_neg (by omega), if_neg hd]), last _ (j7 _ (Ev.step (f := fun _ => some _) (fun k => ?_) (Ev.now _)))⟩
        show prompterref08_Check.j7 (k + 1) _ _ _ = _
        rw [prompterref08_Check.j7, if_neg (by decide), if_neg (by omega)]
end Go.Proofs.Ytlbchdalimngjaa.Tree
namespace Go.Proofs.Ytlbchdalimngjaa.Tree
open Go.RowKit Go.Proofs.YtlbchdalimngjaaW.PrintWords Go.Proofs.YtlbchdalimngjaaW.PrintLast Go.Proofs.Ytlbchdalimngjaa.P Go.Proofs.Ytlbchdalimngjaa.Lex
set_option linter.unusedVariables false
set_option linter.unusedSimpArgs false
abbrev Tw := S43
mutual
inductive T where
  | node (x : Tw) (ks : Ts)
inductive Ts where
  | nil
  | cons (t : T) (ts : Ts)
end
def Ts.len : Ts → Nat
  | .nil => 0
  | .cons _ ts => ts.len + 1
def kwB (s : ByteArray) : Bool := (token_Keyword.f s).getD false
def ownB (s : ByteArray) : Bool := nameL s.data.toList && !kwB s
mutual
def T.ok : T → (Int → Bool) → Bool
  | .node x ks, p => p x.f0 && (fineB x (ownB x.f3) && (decide (x.f1 = (ks.len : Int)) && ks.ok x 0))
def Ts.ok : Ts → Tw → Int → Bool
  | .nil, _, _ => true
  | .cons t ts, x, i => t.ok (refPart x.f0 i x.f1) && ts.ok x (i + 1)
end
theorem Ev.one {α : Type} {g : Nat → Option α} {a r : α} (hg : ∀ k, LeO (g k) (g (k + 1))) {k : Nat} (h : g k = some a) (e : Ev g r) : a = r := by
  obtain ⟨n, hn⟩ := Ev.of hg h
  obtain ⟨m, hm⟩ := e
  have h1 := hn (max n m) (by omega)
  have h2 := hm (max n m) (by omega)
  rw [h1] at h2
  exact Option.some.inj h2
end Go.Proofs.Ytlbchdalimngjaa.Tree
namespace Go.Proofs.Ytlbchdalimngjaa.P
open Go.RowKit Go.Proofs.YtlbchdalimngjaaW.PrintWords Go.Proofs.YtlbchdalimngjaaW.PrintLast Go.Proofs.YtlbchdalimngjaaW.PrintMore Go.Proofs.Ytlbchdalimngjaa.Lex Go.Proofs.Ytlbchdalimngjaa.Tree
set_option linter.unusedVariables false
set_option linter.unusedSimpArgs false
theorem toks_len : ∀ (k : Nat) (cs : List UInt8) (p : Nat) (acc l : List LTok), toks k cs p acc = .ok l → l.length ≤ acc.length + k
  | 0, cs, p, acc, l, h => by
    rw [toks] at h
    injection h with h
    rw [← h]
    omega
  | k + 1, [], p, acc, l, h => by
    rw [toks] at h
    injection h with h
    rw [← h]
    omega
  | k + 1, c :: cs, p, acc, l, h => by
    rw [toks] at h
    split at h
    · have := toks_len k _ _ _ _ h
      omega
    · have := toks_len k _ _ _ _ h
      rw [List.length_append, List.length_singleton] at this
      omega
    · cases h
theorem all_len {k : Nat} {s : ByteArray} {r : List Tok × Int × Int} (h : token_All.f k s = some r) : r.1.length ≤ 16385 := by
  have e := Ev.one (token_All.mono s) h (all_is s)
  rw [e]
  cases hl : lexAll s.data.toList with
  | error x => simp [told]
  | ok l =>
    unfold lexAll at hl
    split at hl
    · cases hl
    · rename_i hs
      have := toks_len _ _ _ _ _ hl
      simp only [told, List.length_map]
      simp only [List.length_nil] at this
      omega
set_option maxHeartbeats 1000000 in
theorem fault_at {W : World} {g : Nat} {x : Tok} {r : List Tok} {ad : Addr} {c : Nat} {size : Int} (hc0 : W.cell? ⟨g, 0, none⟩ = some (.slice (some ad) (x :: r).length c)) (q3 : W.cell? ⟨ad.block, ad.off + 3, none⟩ = some (.int .i64 x.f3)) :
    Calls Try.prog 79 #[.pointer (some ⟨g, 0, none⟩)] W fun e w' => e = .panicked (faultC (x :: r) size) ∧ w' = W := by
  have hl : decide (((r.length + 1 : Nat) : Int) = 0) = false := decide_eq_false (by omega)
  go_enter Try.func79, Try.ntmps79
  go_wp2
  exact ⟨rfl, rfl, rfl⟩
end Go.Proofs.Ytlbchdalimngjaa.P
