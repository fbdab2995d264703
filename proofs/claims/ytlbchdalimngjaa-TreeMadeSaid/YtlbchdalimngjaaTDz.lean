/- TreeMade: parts of a tree that was put together are those that it was made of, for any twig and parts (no condition). -/
import Derived.Test.YtlbchdalimngjaaRows
import Derived.Deep.Slices
import Derived.Deep.Fields
import Derived.ChangeSame
import Derived.Lib.SmallJoins
import Derived.WalkKit
import Derived.ProofKit
import Derived.OpenShut
import Derived.ShutString
import Derived.ChangeOld
import Derived.Below
import Derived.SizedLaws
import Derived.Carry
import Derived.Test.YtlbchdalimngjaaTDh
namespace Go.Proofs.Ytlbchdalimngjaa.Read
open Go.ChangeShapes Go.WideShapes Go.RowKit Go.Proofs.YtlbchdalimngjaaW.PrintWords Go.Proofs.Ytlbchdalimngjaa.P
set_option linter.unusedVariables false
section
variable {H : Type} {enc : TypeId × Value → H} {P : Program} {w : World} {base : Nat} {spare : Nat → Bool} {held : Bool}
def Reads {α : Type} (enc : TypeId × Value → H) (P : Program) (w : World) (base : Nat) (spare : Nat → Bool) (held : Bool) (e : TypeId) (d : Kd α) (S : α → Prop) : Prop :=
  ∀ (fuel : Nat) (cs : List Value) (x : DataW H × List MemPlace), DataW.trod enc P w base spare held fuel e cs = some x → ∃ a, d.K w a cs ∧ ((∀ n ∈ x.1.weights P e, n ≤ reachBytes) → S a)
theorem weights_all (P : Program) (e : TypeId) : ∀ (l : List (DataW H)) (d : DataW H), d ∈ l → ∀ n ∈ d.weights P e, n ∈ DataW.weightsAll P e l
  | d0 :: l, d, hd, n, hn => by
    simp only [DataW.weightsAll, List.mem_append]
    rcases List.mem_cons.1 hd with rfl | hd
    · exact .inl hn
    · exact .inr (weights_all P e l d hd n hn)
theorem reads_slice {α : Type} [Inhabited α] {t e : TypeId} {d : Kd α} {S : α → Prop} (ht : P.underlying t = some (.slice e)) (hc : P.cellsOf e = d.sz) (hd : Reads enc P w base spare held e d S) {fuel : Nat} {cs : List Value} {x : DataW H × List MemPlace}
    (h : DataW.trod enc P w base spare held fuel t cs = some x) : ∃ (A : Option Addr) (c : Nat) (xs : List α), cs = [.slice A xs.length c] ∧ xs.length ≤ c ∧ d.C w A xs.length xs ∧ ((∀ n ∈ x.1.weights P t, n ≤ reachBytes) → xs.length * P.bytesOf e ≤ reachBytes ∧ ∀ y ∈ xs, S y) := by
  rcases Go.Deep.open_slice ht h with ⟨rfl, rfl⟩ | ⟨a, len, cap, m, n, D, Pl, rfl, hb, hl, hm, hmm, rfl, hi⟩
  · exact ⟨none, 0, [], rfl, Nat.le_refl _, ⟨rfl, by simp, fun h => absurd h (Nat.lt_irrefl 0)⟩, fun _ => ⟨by simp, by simp⟩⟩
  · have hlm : len ≤ m := by rw [hmm]; split <;> omega
    have all : ∀ i, ∃ y : α, i < len → (((∀ n ∈ (D i).weights P e, n ≤ reachBytes) → S y) ∧ ∃ c, c.length = d.sz ∧ d.K w y c ∧ ∀ j u, c[j]? = some u → w.cell? (a.add (i * d.sz + j)) = some u) := by
      intro i
      by_cases h : i < len
      · obtain ⟨cs', hcs, htr⟩ := hi i (by omega)
        obtain ⟨y, hy, hS⟩ := hd _ _ _ htr
        rw [hc] at hcs
        obtain ⟨_, hlen, hat⟩ := World.cells?_some hcs
        refine ⟨y, fun _ => ⟨hS, cs', hlen, hy, fun j u hj => ?_⟩⟩
        have hjl : j < d.sz := by rw [← hlen]; exact (List.getElem?_eq_some_iff.1 hj).1
        have := hat j hjl
        rw [Go.Deep.add_add] at this
        rw [this, hj]
      · exact ⟨default, fun h2 => absurd h2 h⟩
    obtain ⟨f, hf⟩ := Classical.skolem.1 all
    have hln : ((List.range len).map f).length = len := by simp
    refine ⟨some a, cap, (List.range len).map f, by rw [hln], by rw [hln]; exact hl, ?_, fun hw => ⟨?_, fun y hy => ?_⟩⟩
    rw [hln]
    refine ⟨hln, ?_, fun _ => ⟨a, rfl, fun j p hj => ?_⟩⟩
    · have : maxLen = 9223372036854775807 := rfl
      omega
    · rw [List.getElem?_map] at hj
      have hjl : j < len := by
        rcases Nat.lt_or_ge j len with h | h
        · exact h
        · rw [List.getElem?_eq_none (by simpa using h)] at hj; cases hj
      rw [List.getElem?_range hjl] at hj
      obtain rfl := Option.some.inj hj
      exact (hf j hjl).2
    · have := hw ((((List.range len).map D).length + (((List.range (m - len)).map fun j => D (len + j))).length) * P.bytesOf e) (by simp [DataW.weights, ht])
      rw [hln]
      rw [List.length_map, List.length_range] at this
      exact Nat.le_trans (Nat.mul_le_mul_right _ (Nat.le_add_right _ _)) this
    · obtain ⟨i, hi2, rfl⟩ := List.mem_map.1 hy
      have hil : i < len := List.mem_range.1 hi2
      refine (hf i hil).1 (fun n hn => hw n ?_)
      have := weights_all P e ((List.range len).map D) (D i) (List.mem_map.2 ⟨i, hi2, rfl⟩) n hn
      simp [DataW.weights, ht]
      exact .inr (.inl this)
theorem Reads.slice {α : Type} [Inhabited α] {t e : TypeId} {d : Kd α} {S : α → Prop} (ht : P.underlying t = some (.slice e)) (hc : P.cellsOf e = d.sz) (hd : Reads enc P w base spare held e d S) : Reads enc P w base spare held t (Kd.slice e d) (fun xs => xs.length * P.bytesOf e ≤ reachBytes ∧ ∀ y ∈ xs, S y) := by
  intro fuel cs x h
  obtain ⟨A, c, xs, rfl, hl, hC, hS⟩ := reads_slice ht hc hd h
  exact ⟨xs, ⟨A, c, rfl, hl, hC⟩, hS⟩
end
section
variable {H : Type} {enc : TypeId × Value → H} {w : World} {base : Nat} {spare : Nat → Bool} {held : Bool}
instance : Inhabited S43 := ⟨z43⟩
set_option maxRecDepth 100000 in
theorem reads_twig : Reads enc Try.prog w base spare held 43 k43 (fun _ => True) := by
  intro fuel cs x h
  obtain ⟨y0, y1, y2, y3, n, _, hl, h0, h1, h2, h3⟩ := Go.Joins.trod_struct4 Try.underlying43 h
  have hC : Try.prog.cellsOf 43 = 4 := by kernel_rfl
  rw [hC] at hl
  match cs, hl with
  | [c0, c1, c2, c3], _ =>
    have k5 : Try.prog.cellsOf 5 = 1 := by kernel_rfl
    have k3 : Try.prog.cellsOf 3 = 1 := by kernel_rfl
    have k2 : Try.prog.cellsOf 2 = 1 := by kernel_rfl
    have k9 : Try.prog.cellsOf 9 = 1 := by kernel_rfl
    dsimp only at h0 h1 h2 h3
    rw [k5] at h0
    rw [k3] at h1
    rw [k2] at h2
    rw [k9] at h3
    obtain ⟨n0, e0, _⟩ := DataW.trod_int Try.underlying5 h0
    obtain ⟨n1, e1, _⟩ := DataW.trod_int Try.underlying3 h1
    obtain ⟨n2, e2, _⟩ := DataW.trod_int Try.underlying2 h2
    obtain ⟨s3, e3, _⟩ := DataW.trod_string Try.underlying9 h3
    simp at e0 e1 e2 e3
    subst e0 e1 e2 e3
    exact ⟨⟨n0, n1, n2, s3⟩, k43_mk w ⟨n0, n1, n2, s3⟩, fun _ => trivial⟩
theorem sized_at {P : Program} {ts : List TypeId} {ds : List (DataW H)} (h : (DataW.weightsEach P (ts ++ []) (ds ++ [])).all (· ≤ reachBytes) = true) {j : Nat} {t : TypeId} {d : DataW H} (ht : ts[j]? = some t) (hd : ds[j]? = some d) : ∀ n ∈ DataW.weights P t d, n ≤ reachBytes := by
  intro n hn
  rw [List.append_nil, List.append_nil] at h
  have := List.all_eq_true.1 h _ (DataW.weights_mem_each ht hd n hn)
  simpa using this
theorem agg_twig {x : S43} {cs : Array Value} (h : k43.K w x (Value.cells (.agg cs)).toList) : cs = #[.int .u8 x.f0, .int .i64 x.f1, .int .i64 x.f2, .string x.f3] := by
  have := k43_open h
  exact Array.toList_inj.mp this
theorem twig_bytes : Try.prog.bytesOf 43 = 40 := by kernel_rfl
theorem tree_le {l : List S43} {S : S43 → Prop} (h : l.length * Try.prog.bytesOf 43 ≤ reachBytes ∧ ∀ y ∈ l, S y) : l.length ≤ 3518437208780 := by
  have := h.1
  rw [twig_bytes] at this
  have e : reachBytes = 140737488351232 := by rfl
  omega
theorem parts_le {l : List (List S43)} {S : S43 → Prop} {n : Nat} (h : n ≤ reachBytes ∧ ∀ p ∈ l, p.length * Try.prog.bytesOf 43 ≤ reachBytes ∧ ∀ y ∈ p, S y) : ∀ p ∈ l, p.length ≤ 3518437208780 := fun p hp => tree_le (h.2 p hp)
end
end Go.Proofs.Ytlbchdalimngjaa.Read
namespace Go.Proofs.Ytlbchdalimngjaa.treeMade
open Go.ChangeShapes Go.WideShapes Go.ChangeAt Go.RowKit Go.Proofs.Ytlbchdalimngjaa.Read Go.Proofs.Ytlbchdalimngjaa.P Go.Proofs.YtlbchdalimngjaaW.PrintWords
open Go.ChangeMaps (open_string shut_string)
set_option linter.unusedVariables false
theorem own : ownKnob Try.prog.godebug = none := by kernel_rfl
theorem laidOut : laidOutB Try.prog = true := by kernel_rfl
set_option maxRecDepth 100000 in
theorem lifted (os : Os) (started : os.Started) (H : Type) (enc : TypeId × Value → H) :
    ReturnsInHanded {} Try.checked os 10 .any (Rows.treeMadeSpec.pre6 enc Try.prog Try.f10 Rows.treeMadeRow.domain false) (Rows.treeMadeSpec.post enc Try.prog Try.f10 false true false false) := by
  refine returnsInHanded_of_change_sized (C := Try.checked) own started (by kernel_rfl) Try.func10
    (ChangeSpec.witness6 (enc := enc) (C := Try.checked) false ⟨#[], #[.agg #[.int .u8 0, .int .i64 0, .int .i64 0, .string ByteArray.empty], .slice none 0 0], []⟩ 8 (by kernel_rfl) (by kernel_rfl) (by kernel_rfl) (by kernel_rfl)) ?_
  intro W base args ds gs before hval0 hW hcnd hsz0 _
  have hsz : (DataW.weightsEach Try.prog (Try.f10.params.toList ++ Rows.treeMadeSpec.plain.varTypes Try.prog) (ds ++ gs)).all (· ≤ reachBytes) = true := hsz0
  have hval : ∀ (j : Nat) t v, Try.f10.params[j]? = some t → args[j]? = some v → Value.okWide Try.prog W .any base t v := hval0
  have hW' := hW
  obtain ⟨p, q, hA0, hV, rfl, hfz, hnd⟩ := hW
  have hA : DataW.TrodAll enc Try.prog W 0 (fun _ => true) true Try.f10.params.toList args.toList ds p := hA0
  rw [Try.params10] at hA hval hsz
  obtain ⟨v0, vs0, d0, ds0, p0, q0, hargs, rfl, rfl, h0, r0⟩ := trodAll_cons hA
  obtain ⟨v1, vs1, d1, ds1, p1, q1, rfl, rfl, rfl, h1, r1⟩ := trodAll_cons r0
  obtain ⟨rfl, rfl, rfl⟩ := trodAll_nil r1
  obtain rfl : args = #[v0, v1] := by cases args; simp_all
  obtain ⟨rfl, rfl⟩ := trodVars_none hV
  have hwt : ∀ (j : Nat) t d, [43, 38][j]? = some t → (d0 :: d1 :: [])[j]? = some d → ∀ n ∈ DataW.weights Try.prog t d, n ≤ reachBytes := fun j t d a b n hn => sized_at hsz a b n hn
  have lt0 : ∀ x ∈ p0, x.block < W.heap.size := by obtain ⟨m, hm⟩ := h0; exact DataW.trod_lt m _ _ _ hm
  have g0 := h0
  obtain ⟨m0, hm0⟩ := h0
  obtain ⟨cs0, rfl, hz0⟩ := okWide_struct Try.underlying43 (hval 0 43 v0 rfl rfl)
  obtain ⟨x0, hx0, _⟩ := reads_twig _ _ _ hm0
  obtain ⟨y00, y01, y02, y03⟩ := x0
  have ec0 : cs0 = #[.int .u8 y00, .int .i64 y01, .int .i64 y02, .string y03] := agg_twig hx0
  subst ec0
  have lt1 : ∀ x ∈ p1, x.block < W.heap.size := by obtain ⟨m, hm⟩ := h1; exact DataW.trod_lt m _ _ _ hm
  have g1 := h1
  obtain ⟨m1, hm1⟩ := h1
  obtain ⟨A1, c1, l1, e1, hc1, hr1, hs1⟩ := reads_slice Try.underlying38 (by kernel_rfl) (Reads.slice (t := 36) Try.underlying36 (by kernel_rfl) reads_twig) hm1
  obtain ⟨a1, n1, u1, ev1⟩ := okWide_slice Try.underlying38 (hval 1 38 v1 rfl rfl)
  subst ev1
  simp only [Value.cells, List.cons.injEq, Value.slice.injEq, and_true] at e1
  obtain ⟨rfl, rfl, rfl⟩ := e1
  have s1 := hs1 (hwt 1 38 d1 rfl rfl)
  clear hA0 hval0 hsz0 hsz hwt
  obtain ⟨k, hk⟩ := Pure.TreeMade y00 y01 y02 y03 l1 (parts_le s1)
  refine (P.prompterlaw08_TreeMade.calls k y00 y01 y02 y03 _ _ l1 true W hr1 hc1 hk).mono fun e W' ⟨he, bel⟩ => ?_
  subst he
  exact ⟨_, rfl, _, _, _, [], _, [], hW', trodAll_mk1 (shut_bool Try.underlying4 _), (trodAll_cons_mk (Below.trod laidOut (by kernel_rfl) (of_decide_eq_true (by kernel_rfl)) g0 bel lt0) (trodAll_cons_mk (Below.trod laidOut (by kernel_rfl) (of_decide_eq_true (by kernel_rfl)) g1 bel lt1) trodAll_mk0)), rfl, bel.frame _, fun h => by cases h⟩
theorem over : Rows.treeMadeRow.holds Try.pinned (OpenSpec.ofChange Rows.treeMadeSpec) :=
  OpenClaim.holds_of_wide 10 Try.f10 rfl rfl rfl rfl rfl rfl rfl ⟨rfl, rfl, rfl, rfl, rfl⟩ rfl rfl rfl rfl rfl (by kernel_rfl) Try.func10 (by kernel_rfl)
    (of_decide_eq_true (by kernel_rfl)) (by unfold Func.isWrapper; first | (rw [if_pos (by decide +kernel)]; kernel_rfl) | (rw [if_neg (by decide +kernel)]; exact ⟨rfl, rfl⟩))
    (fun os started H enc _ => lifted os started H enc)
theorem proved : Rows.TreeMadeSaid := over
end Go.Proofs.Ytlbchdalimngjaa.treeMade
namespace Go.Proofs.Ytlbchdalimngjaa
theorem treeMade_holds : Rows.TreeMadeSaid := treeMade.proved
end Go.Proofs.Ytlbchdalimngjaa
