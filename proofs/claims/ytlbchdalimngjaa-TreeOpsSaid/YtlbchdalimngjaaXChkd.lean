/- Proved here: what tree.Check computes: whether twigs are a right tree, or where they go wrong, in the form that the printed callers ask (no condition beyond its pure answer being told). -/
import Derived.Test.YtlbchdalimngjaaXForms
import Derived.Test.YtlbchdalimngjaaPx12
import Derived.Test.YtlbchdalimngjaaPx13
namespace Go.Proofs.Ytlbchdalimngjaa.P
open Go.RowKit Go.Proofs.YtlbchdalimngjaaW.PrintWords Go.Proofs.YtlbchdalimngjaaW.PrintLast Go.Proofs.YtlbchdalimngjaaW.PrintMore
open Go.Instr
attribute [local go_sem] max2_int min2_int max_two min_two max_three min_three max_four min_four
set_option linter.unusedVariables false
set_option linter.unusedSimpArgs false

def formOf (op : Int) : Option Form := (formTab 58).lookup op
/-- What a text function of the table answers. -/
def textOf (k : Nat) (f : Nat) (s : ByteArray) : Option Bool :=
  if f = 69 then tree_own.f k s else if f = 72 then tree_empty.f s else if f = 75 then tree_short.f s else none
/-- What a part function of the table answers. -/
def partOf (f : Nat) (i n op : Int) : Option Bool :=
  if f = 70 then tree_params.f i n op else if f = 71 then tree_nothing.f i n op else if f = 73 then tree_stmt.f i n op
  else if f = 74 then tree_headed.f 9 i n op else if f = 76 then tree_expr.f 9 i n op else if f = 77 then tree_block.f i n op else none
def partB (f : Nat) (i n op : Int) : Bool := (partOf f i n op).getD false
/-- Is a twig wrong by itself? -/
def tree_Check.bad (k : Nat) (x : S43) (p : Int → Bool) : Option Bool :=
  match formOf x.f0 with
  | none => some true
  | some f => if p x.f0 = true then ((textOf k f.tx x.f3).bind fun t => if t = true then
      (if x.f1 < f.le then some true else if x.f1 > f.mo then some true else if x.f0 = 23 then some (decide (x.f2 < 0)) else if x.f2 = 0 then some false else some true) else some true) else some true
mutual
def tree_Check.walk (l : List S43) : Nat → Int → Int → (Int → Bool) → Int → Int → Option (Int × Int × Int)
  | 0, _, _, _, _, _ => none
  | k + 1, at_, lv, p, wr, dp =>
    if at_ < (l.length : Int) then (if 0 ≤ at_ then
      ((tree_Check.bad k (rd_T43 l at_) p).bind fun b => if b = true then some (at_, at_, dp) else
        tree_Check.kids l k (rd_T43 l at_) (wrap64 (at_ + 1)) lv 0 wr (if lv > 40 then (if dp < 0 then at_ else dp) else dp)) else none)
    else some (at_, (l.length : Int), dp)
def tree_Check.kids (l : List S43) : Nat → S43 → Int → Int → Int → Int → Int → Option (Int × Int × Int)
  | 0, _, _, _, _, _, _ => none
  | k + 1, x, nx, lv, i, wr, dp =>
    if i < x.f1 then (if wr < 0 then
      ((tree_Check.walk l k nx (wrap64 (lv + 1)) (fun op => partB ((formOf x.f0).getD ⟨0, 0, 0, 0⟩).pt i x.f1 op) wr dp).bind fun q => tree_Check.kids l k x q.1 lv (wrap64 (i + 1)) q.2.1 q.2.2)
      else some (nx, wr, dp)) else some (nx, wr, dp)
end
def tree_Check.f (k : Nat) (l0 : List S43) : Option (Int × Int) :=
  if (l0.length : Int) > 2048 then some (0, 2) else
  (tree_Check.walk l0 k 0 1 (fun _ => true) (-1) (-1)).bind fun q =>
    if 0 ≤ q.2.1 then some (q.2.1, 3) else if q.1 < (l0.length : Int) then some (q.1, 3) else if 0 ≤ q.2.2 then some (q.2.2, 2) else some (0, 0)

theorem textOf_mono (k f : Nat) (s : ByteArray) : LeO (textOf k f s) (textOf (k + 1) f s) := by
  unfold textOf
  repeat' first | exact tree_own.mono _ _ | exact LeO.refl _ | refine LeO.ite ?_ ?_
theorem tree_Check.bad_mono (k : Nat) (x : S43) (p : Int → Bool) : LeO (tree_Check.bad k x p) (tree_Check.bad (k + 1) x p) := by
  unfold tree_Check.bad
  cases formOf x.f0 with
  | none => exact LeO.refl _
  | some f => exact LeO.ite (LeO.bind (textOf_mono _ _ _) (fun _ => LeO.refl _)) (LeO.refl _)
theorem tree_Check.both_mono (l : List S43) : ∀ k, (∀ a b p c d, LeO (tree_Check.walk l k a b p c d) (tree_Check.walk l (k + 1) a b p c d)) ∧ (∀ x a b c d e, LeO (tree_Check.kids l k x a b c d e) (tree_Check.kids l (k + 1) x a b c d e))
  | 0 => ⟨fun _ _ _ _ _ r h => by simp [tree_Check.walk] at h, fun _ _ _ _ _ _ r h => by simp [tree_Check.kids] at h⟩
  | k + 1 => by
    obtain ⟨ih1, ih2⟩ := tree_Check.both_mono l k
    refine ⟨fun a b p c d => ?_, fun x a b c d e => ?_⟩
    · rw [tree_Check.walk, tree_Check.walk]
      exact LeO.ite (LeO.ite (LeO.bind (tree_Check.bad_mono _ _ _) (fun _ => LeO.ite (LeO.refl _) (ih2 _ _ _ _ _ _))) (LeO.refl _)) (LeO.refl _)
    · rw [tree_Check.kids, tree_Check.kids]
      exact LeO.ite (LeO.ite (LeO.bind (ih1 _ _ _ _ _) (fun _ => ih2 _ _ _ _ _ _)) (LeO.refl _)) (LeO.refl _)
theorem tree_Check.mono : ∀ l0 k, LeO (tree_Check.f k l0) (tree_Check.f (k + 1) l0) := by
  intro l0 k
  unfold tree_Check.f
  exact LeO.ite (LeO.refl _) (LeO.bind ((tree_Check.both_mono l0 k).1 _ _ _ _ _) (fun _ => LeO.refl _))

/-- A function that has a body is entered. -/
def Enters (f : Nat) : Prop := ∀ (args : Array Value) (w : World), Sem.run Try.prog (callFunc f args) w = .ok (.enter f args) w
theorem enters_own : Enters 69 := enters_ Try.func69 (by kernel_rfl) rfl
theorem enters_empty : Enters 72 := enters_ Try.func72 (by kernel_rfl) rfl
theorem enters_short : Enters 75 := enters_ Try.func75 (by kernel_rfl) rfl
theorem enters_params : Enters 70 := enters_ Try.func70 (by kernel_rfl) rfl
theorem enters_nothing : Enters 71 := enters_ Try.func71 (by kernel_rfl) rfl
theorem enters_stmt : Enters 73 := enters_ Try.func73 (by kernel_rfl) rfl
theorem enters_headed : Enters 74 := enters_ Try.func74 (by kernel_rfl) rfl
theorem enters_expr : Enters 76 := enters_ Try.func76 (by kernel_rfl) rfl
theorem enters_block : Enters 77 := enters_ Try.func77 (by kernel_rfl) rfl
theorem enters_one : Enters 53 := enters_ Try.func53 (by kernel_rfl) rfl
theorem enters_two : Enters 54 := enters_ Try.func54 (by kernel_rfl) rfl
theorem enters_walk : Enters 52 := enters_ Try.func52 (by kernel_rfl) rfl

theorem text_enters {k f : Nat} {s : ByteArray} {r : Bool} (h : textOf k f s = some r) : Enters f := by
  unfold textOf at h
  split at h
  · rename_i e; subst e; exact enters_own
  split at h
  · rename_i e; subst e; exact enters_empty
  split at h
  · rename_i e; subst e; exact enters_short
  · cases h
theorem text_calls {k f : Nat} {s : ByteArray} {r : Bool} (w : World) (h : textOf k f s = some r) : Calls Try.prog f #[.string s] w fun e w' => e = .returned (.bool r) ∧ Drawn0 w w' := by
  unfold textOf at h
  split at h
  · rename_i e; subst e; exact tree_own.calls k s r w h
  split at h
  · rename_i e; subst e; exact tree_empty.calls s r w h
  split at h
  · rename_i e; subst e; exact tree_short.calls s r w h
  · cases h
theorem part_enters {f : Nat} {i n op : Int} {r : Bool} (h : partOf f i n op = some r) : Enters f := by
  unfold partOf at h
  split at h
  · rename_i e; subst e; exact enters_params
  split at h
  · rename_i e; subst e; exact enters_nothing
  split at h
  · rename_i e; subst e; exact enters_stmt
  split at h
  · rename_i e; subst e; exact enters_headed
  split at h
  · rename_i e; subst e; exact enters_expr
  split at h
  · rename_i e; subst e; exact enters_block
  · cases h
theorem part_calls {f : Nat} {i n op : Int} {r : Bool} (w : World) (h : partOf f i n op = some r) : Calls Try.prog f #[.int .i64 i, .int .i64 n, .int .u8 op] w fun e w' => e = .returned (.bool r) ∧ Drawn0 w w' := by
  unfold partOf at h
  split at h
  · rename_i e; subst e; exact tree_params.calls i n op r w h
  split at h
  · rename_i e; subst e; exact tree_nothing.calls i n op r w h
  split at h
  · rename_i e; subst e; exact tree_stmt.calls i n op r w h
  split at h
  · rename_i e; subst e; exact tree_headed.calls 9 i n op r w h
  split at h
  · rename_i e; subst e; exact tree_expr.calls 9 i n op r w h
  split at h
  · rename_i e; subst e; exact tree_block.calls i n op r w h
  · cases h
theorem expression_some (op : Int) : ∃ b, tree_Expression.f 9 op = some b := by
  unfold tree_Expression.f
  repeat' first | exact ⟨_, rfl⟩ | (simp only [tree_Expression.j0]; done) | (rw [tree_Expression.j0]) | (rw [tree_Expression.j1]) | split
theorem ite_ex {α : Type} {c : Prop} [Decidable c] {a b : Option α} (ha : ∃ r, a = some r) (hb : ∃ r, b = some r) : ∃ r, (if c then a else b) = some r := by split <;> assumption
/-- The part functions of the table answer at every place. -/
theorem part_some {op : Int} {f : Form} (hf : formOf op = some f) (i n q : Int) : partOf f.pt i n q = some (partB f.pt i n q) := by
  have key : ∃ r, partOf f.pt i n q = some r := by
    have hm : f.pt ∈ [70, 71, 73, 74, 76, 77] := by
      have all : ∀ p ∈ formTab 58, p.2.pt ∈ [70, 71, 73, 74, 76, 77] := by decide +kernel
      unfold formOf at hf
      generalize formTab 58 = L at hf all
      induction L with
      | nil => cases hf
      | cons p L ih =>
        obtain ⟨a, g⟩ := p
        simp only [List.lookup] at hf
        split at hf
        · obtain rfl := Option.some.inj hf
          exact all _ List.mem_cons_self
        · exact ih hf (fun p hp => all p (List.mem_cons_of_mem _ hp))
    obtain ⟨b, hb⟩ := expression_some q
    simp only [List.mem_cons, List.not_mem_nil, or_false] at hm
    rcases hm with e | e | e | e | e | e <;> rw [e] <;> simp only [partOf, Nat.reduceEqDiff, if_true, if_false, ↓reduceIte] <;> simp only [tree_params.f, tree_nothing.f, tree_stmt.f, tree_headed.f, tree_expr.f, tree_block.f, tree_Statement.f, hb, Option.bind_some]
    · repeat' first | exact ⟨_, rfl⟩ | refine ite_ex ?_ ?_
    · exact ⟨_, rfl⟩
    · split <;> exact ⟨_, rfl⟩
    · repeat' first | exact ⟨_, rfl⟩ | refine ite_ex ?_ ?_
    · exact ⟨_, rfl⟩
    · exact ⟨_, rfl⟩
  obtain ⟨r, hr⟩ := key
  rw [partB, hr]
  rfl
def chkS (bw bd : Nat) (k : Nat) : Prop := k = bw ∨ k = bd
/-- The variables that the walk shares: the twigs, the table, the places where something is wrong, or too deep, the walk itself. -/
structure ChkEnv (w0 w : World) (l : List S43) (A : Option Addr) (c bt b bm bw bd bk : Nat) (wr dp : Int) : Prop where
  below : Below w0.heap.size w0 w
  row : Kd.C k43 w0 A l.length l
  cap : l.length ≤ c
  hbt : w.heap[bt]? = some (.cells #[.slice A l.length c] 36 (0, 0))
  hb : w.heap[b]? = some (formMap 58)
  hbm : w.heap[bm]? = some (.cells #[.map (some b)] 68 (0, 0))
  hbw : w.heap[bw]? = some (.cells #[.int .i64 wr] 3 (0, 0))
  hbd : w.heap[bd]? = some (.cells #[.int .i64 dp] 3 (0, 0))
  hbk : w.heap[bk]? = some (.cells #[.func (.func 52) #[] #[.pointer (some ⟨bt, 0, none⟩), .pointer (some ⟨bw, 0, none⟩), .pointer (some ⟨bm, 0, none⟩), .pointer (some ⟨bd, 0, none⟩), .pointer (some ⟨bk, 0, none⟩)]] 70 (0, 0))
  ord : w0.heap.size ≤ bt ∧ bt < b ∧ b < bm ∧ bm < bw ∧ bw < bd ∧ bd < bk
section
variable {w0 w W : World} {l : List S43} {A : Option Addr} {c bt b bm bw bd bk : Nat} {wr dp : Int}
theorem ChkEnv.lt (h : ChkEnv w0 w l A c bt b bm bw bd bk wr dp) : bk < w.heap.size := blk_lt h.hbk
/-- What is made, or written into what was made, turns none of it. -/
theorem ChkEnv.move (h : ChkEnv w0 w l A c bt b bm bw bd bk wr dp) (hb : Below w.heap.size w W) : ChkEnv w0 W l A c bt b bm bw bd bk wr dp :=
  ⟨below_then h.below h.below.size hb, h.row, h.cap, blk_below h.hbt hb, blk_below h.hb hb, blk_below h.hbm hb, blk_below h.hbw hb, blk_below h.hbd hb, blk_below h.hbk hb, h.ord⟩
theorem ChkEnv.setw (h : ChkEnv w0 w l A c bt b bm bw bd bk wr dp) (x : Int) : ChkEnv w0 (w.setCell ⟨bw, 0, none⟩ (.int .i64 x)) l A c bt b bm bw bd bk x dp := by
  have o := h.ord
  exact ⟨h.below.setCell (by show w0.heap.size ≤ bw; omega) _, h.row, h.cap, obj_far h.hbt (by show bt ≠ bw; omega), obj_far h.hb (by show b ≠ bw; omega), obj_far h.hbm (by show bm ≠ bw; omega), blk_set h.hbw 0 _, obj_far h.hbd (by show bd ≠ bw; omega), obj_far h.hbk (by show bk ≠ bw; omega), o⟩
theorem ChkEnv.setd (h : ChkEnv w0 w l A c bt b bm bw bd bk wr dp) (x : Int) : ChkEnv w0 (w.setCell ⟨bd, 0, none⟩ (.int .i64 x)) l A c bt b bm bw bd bk wr x := by
  have o := h.ord
  exact ⟨h.below.setCell (by show w0.heap.size ≤ bd; omega) _, h.row, h.cap, obj_far h.hbt (by show bt ≠ bd; omega), obj_far h.hb (by show b ≠ bd; omega), obj_far h.hbm (by show bm ≠ bd; omega), obj_far h.hbw (by show bw ≠ bd; omega), blk_set h.hbd 0 _, obj_far h.hbk (by show bk ≠ bd; omega), o⟩
theorem ChkEnv.get (h : ChkEnv w0 w l A c bt b bm bw bd bk wr dp) :
    w.cell? ⟨bt, 0, none⟩ = some (.slice A l.length c) ∧ w.cell? ⟨bm, 0, none⟩ = some (.map (some b)) ∧ w.cell? ⟨bw, 0, none⟩ = some (.int .i64 wr) ∧ w.cell? ⟨bd, 0, none⟩ = some (.int .i64 dp) ∧
    w.cell? ⟨bk, 0, none⟩ = some (.func (.func 52) #[] #[.pointer (some ⟨bt, 0, none⟩), .pointer (some ⟨bw, 0, none⟩), .pointer (some ⟨bm, 0, none⟩), .pointer (some ⟨bd, 0, none⟩), .pointer (some ⟨bk, 0, none⟩)]) ∧
    w.frozen? ⟨bw, 0, none⟩ = false ∧ w.frozen? ⟨bd, 0, none⟩ = false :=
  ⟨(blk_cell h.hbt 0).trans rfl, (blk_cell h.hbm 0).trans rfl, (blk_cell h.hbw 0).trans rfl, (blk_cell h.hbd 0).trans rfl, (blk_cell h.hbk 0).trans rfl, blk_frozen h.hbw 0, blk_frozen h.hbd 0⟩
end
/-- What a closure handed to the walk answers, whatever has come since. -/
def May (w : World) (bw bd mf : Nat) (mcap : List Value) (p : Int → Bool) : Prop :=
  ∀ W, Kept w W (chkS bw bd) → ∀ op : Int, Calls Try.prog mf (Value.int .u8 op :: mcap).toArray W fun e W' => e = .returned (.bool (p op)) ∧ Drawn0 W W'
theorem may_two (w : World) (bw bd : Nat) : May w bw bd 54 [] (fun _ => true) := by
  intro W _ op
  go_enter Try.func54, Try.ntmps54
  go_wp2
  go_ret
  exact ⟨rfl, Drawn0.refl _⟩
theorem may_one {w : World} {bw bd bf bi bx : Nat} {f : Form} {i : Int} {x : S43} (hf : formOf x.f0 = some f) (hbf : w.heap[bf]? = some (.cells f.cells 73 (0, 0))) (hbi : w.heap[bi]? = some (.cells #[.int .i64 i] 3 (0, 0)))
    (hbx : w.heap[bx]? = some (.cells #[.int .u8 x.f0, .int .i64 x.f1, .int .i64 x.f2, .string x.f3] 43 (0, 0))) (n1 : ¬ chkS bw bd bf) (n2 : ¬ chkS bw bd bi) (n3 : ¬ chkS bw bd bx) :
    May w bw bd 53 [.pointer (some ⟨bf, 0, none⟩), .pointer (some ⟨bi, 0, none⟩), .pointer (some ⟨bx, 0, none⟩)] (fun op => partB ((formOf x.f0).getD ⟨0, 0, 0, 0⟩).pt i x.f1 op) := by
  intro W hk op
  have h1 : W.cell? ⟨bf, 3, none⟩ = some (.func (.func f.pt) #[] #[]) := (blk_cell (blk_kept hbf hk n1) 3).trans rfl
  have h2 : W.cell? ⟨bi, 0, none⟩ = some (.int .i64 i) := (blk_cell (blk_kept hbi hk n2) 0).trans rfl
  have h3 : W.cell? ⟨bx, 1, none⟩ = some (.int .i64 x.f1) := (blk_cell (blk_kept hbx hk n3) 1).trans rfl
  have hp := Aside0.mk (part_some hf i x.f1 op)
  have he : ∀ (args : Array Value) (w : World), Sem.run Try.prog (callFunc f.pt args) w = .ok (.enter f.pt args) w := part_enters hp.out
  have hu := Try.underlying73
  have hu2 := Try.underlying43
  rw [hf]
  show Calls _ _ _ _ fun e W' => e = .returned (.bool (partB f.pt i x.f1 op)) ∧ Drawn0 W W'
  clear hf hbf hbi hbx n1 n2 n3 hk
  go_enter Try.func53, Try.ntmps53
  go_wp2_with (first | ((with_reducible refine (part_calls _ hp.out).mono ?_); rintro e w' ⟨rfl, ⟨nd, rfl⟩⟩))
  go_ret
  exact ⟨rfl, ⟨_, rfl⟩⟩
theorem form_find (op : Int) : ∀ (L : List (Int × Form)) (i : Nat),
    (L.lookup op = none → findNow (.int .u8) (.int .u8 op) (formEnt i L) i = some none) ∧ (∀ f, L.lookup op = some f → ∃ j, findNow (.int .u8) (.int .u8 op) (formEnt i L) i = some (some (j, .agg f.cells)))
  | [], i => ⟨fun _ => rfl, fun f h => (by cases h)⟩
  | (a, g) :: L, i => by
    have ih := form_find op L (i + 1)
    simp only [List.lookup, formEnt, findNow, sameNow]
    cases h : op == a with
    | true => exact ⟨fun h => (by cases h), fun f hf => ⟨i, (by obtain rfl := Option.some.inj hf; simp)⟩⟩
    | false => simpa using ih
theorem form_not {op : Int} (h : formOf op = none) : findNow (.int .u8) (.int .u8 op) (formEnt 0 (formTab 58)).toArray.toList 0 = some none := (form_find op _ 0).1 h
theorem form_has {op : Int} {f : Form} (h : formOf op = some f) : ∃ j, findNow (.int .u8) (.int .u8 op) (formEnt 0 (formTab 58)).toArray.toList 0 = some (some (j, .agg f.cells)) := (form_find op _ 0).2 f h
theorem Below.chk {w W : World} {bw bd : Nat} (h : Below w.heap.size w W) : Kept w W (chkS bw bd) := Kept.of_below h _
theorem may_at {w : World} {bw bd mf : Nat} {mcap : List Value} {p : Int → Bool} (h : May w bw bd mf mcap p) {W : World} (hk : Kept w W (chkS bw bd)) (op : Int) : Calls Try.prog mf (Value.int .u8 op :: mcap).toArray W fun e W' => e = .returned (.bool (p op)) ∧ Drawn0 W W' := h W hk op
theorem mk_run (P : Program) (fn : Fn) (first cap : Array Value) (w : World) : (Instr.makeFunc fn first cap).run P w = .ok (.func fn first cap) w := rfl
theorem mk_events (P : Program) (fn : Fn) (first cap : Array Value) (w : World) (es : Array Event) : (Instr.makeFunc fn first cap).events P w es = es := rfl
end Go.Proofs.Ytlbchdalimngjaa.P
