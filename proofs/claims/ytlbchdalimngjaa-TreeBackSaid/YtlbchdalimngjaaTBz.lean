/- TreeBack: a tree is its first twig and its parts put together, for any twigs (no condition). -/
import Derived.KernelRfl
import Derived.Test.YtlbchdalimngjaaRows
import Derived.Deep.Slices
import Derived.Deep.Fields
import Derived.ChangeSame
import Derived.Lib.SmallJoins
import Derived.WalkKit
import Derived.ProofKit
import Derived.OpenShut
import Derived.ShutString
import Derived.ChangeOld
import Derived.Below
import Derived.SizedLaws
import Derived.Carry
import Derived.Test.YtlbchdalimngjaaTBg
namespace Go.Proofs.Ytlbchdalimngjaa.Tree
open Go.RowKit Go.Proofs.YtlbchdalimngjaaW.PrintWords Go.Proofs.YtlbchdalimngjaaW.PrintLast Go.Proofs.Ytlbchdalimngjaa.P Go.Proofs.Ytlbchdalimngjaa.Lex
set_option linter.unusedVariables false
set_option linter.unusedSimpArgs false
def nameL (l : List UInt8) : Bool := decide (l.length ≤ 24) && match l with
  | [] => false
  | c :: cs => isLow c && cs.all isInn
theorem inn_num (c : UInt8) : isInn c = true ↔ (97 ≤ c.toNat ∧ c.toNat ≤ 122) ∨ (48 ≤ c.toNat ∧ c.toNat ≤ 57) ∨ c.toNat = 95 := by
  unfold isInn isLow isDig
  simp [or_assoc]
theorem low_num (c : UInt8) : isLow c = true ↔ (97 ≤ c.toNat ∧ c.toNat ≤ 122) := by
  unfold isLow
  simp
theorem value_go (s : ByteArray) (hs : s.size ≤ 24) : ∀ (cs : List UInt8) (i : Nat), s.data.toList.drop i = cs → i ≤ s.size → Ev (fun k => value_Name.l0 k s (s.size : Int) (i : Int)) (cs.all isInn)
  | [], i, h, hi => by
    refine Ev.step (f := fun _ => some _) (fun k => ?_) (Ev.now _)
    show value_Name.l0 (k + 1) s _ _ = _
    rw [value_Name.l0, if_neg (drop_nil h)]
    rfl
  | c :: cs, i, h, hi => by
    obtain ⟨hb, hlt, hd⟩ := bt_get h
    have hc := inn_num c
    have w1 : wrap64 ((i : Int) + 1) = ((i + 1 : Nat) : Int) := w64 (by omega) (by omega)
    by_cases hin : isInn c = true
    · have hc2 := hc.1 hin
      rw [List.all_cons, hin, Bool.true_and]
      refine Ev.step (fun k => ?_) (value_go s hs cs (i + 1) hd (by omega))
      show value_Name.l0 (k + 1) s _ _ = _
      rw [value_Name.l0, if_pos (by omega), if_pos (by omega), if_pos (by omega), hb, w1]
      repeat' split
      all_goals first | rfl | (exfalso; omega)
    · have hc2 : ¬ ((97 ≤ c.toNat ∧ c.toNat ≤ 122) ∨ (48 ≤ c.toNat ∧ c.toNat ≤ 57) ∨ c.toNat = 95) := fun x => hin (hc.2 x)
      rw [List.all_cons, Bool.eq_false_iff.mpr hin, Bool.false_and]
      refine Ev.step (f := fun _ => some false) (fun k => ?_) (Ev.now _)
      show value_Name.l0 (k + 1) s _ _ = _
      rw [value_Name.l0, if_pos (by omega), if_pos (by omega), if_pos (by omega), hb, w1]
      repeat' split
      all_goals first | rfl | (exfalso; omega)
theorem value_is (s : ByteArray) : Ev (fun k => value_Name.f k s) (nameL s.data.toList) := by
  have e : s.data.toList.length = s.size := by simp
  have no : Ev (fun k => value_Name.j0 k s true) false := Ev.step (f := fun _ => some false) (fun k => by show value_Name.j0 (k + 1) s true = _; rw [value_Name.j0, if_pos rfl]) (Ev.now _)
  unfold nameL
  cases hl : s.data.toList with
  | nil =>
    rw [Bool.and_false]
    refine Ev.congr (fun k => ?_) no
    show value_Name.f k s = _
    rw [value_Name.f, ByteArray.toList_eq, hl, if_pos rfl]
  | cons c cs =>
    obtain ⟨hb, hlt, hd⟩ := bt_get (s := s) (i := 0) (c := c) (cs := cs) (by simpa using hl)
    have hne : ¬ s.toList = [] := by rw [ByteArray.toList_eq, hl]; simp
    have hb0 : bt s 0 = (c.toNat : Int) := hb
    have e2 : (c :: cs).length = s.size := by rw [← hl]; exact e
    rw [e2]
    (try dsimp only)
    by_cases h24 : s.size ≤ 24
    · rw [decide_eq_true h24, Bool.true_and]
      by_cases hlow : isLow c = true
      · have hn := (low_num c).1 hlow
        rw [hlow, Bool.true_and]
        have hin : isInn c = true := by unfold isInn; rw [hlow]; rfl
        have := value_go s h24 (c :: cs) 0 (by simpa using hl) (by omega)
        rw [List.all_cons, hin, Bool.true_and] at this
        refine Ev.congr (f := fun k => value_Name.j0 k s false) (fun k => ?_) (Ev.step (fun k => ?_) this)
        · show value_Name.f k s = _
          rw [value_Name.f, if_neg hne, if_neg (by omega), if_pos (by omega), hb0, if_neg (by omega), decide_eq_false (by omega)]
        · show value_Name.j0 (k + 1) s false = _
          rw [value_Name.j0, if_neg (by decide)]
          rfl
      · have hn : ¬ (97 ≤ c.toNat ∧ c.toNat ≤ 122) := fun x => hlow ((low_num c).2 x)
        rw [Bool.eq_false_iff.mpr hlow, Bool.false_and]
        refine Ev.congr (fun k => ?_) no
        show value_Name.f k s = _
        rw [value_Name.f, if_neg hne, if_neg (by omega), if_pos (by omega), hb0]
        by_cases h97 : (c.toNat : Int) < 97
        · rw [if_pos h97]
        · rw [if_neg h97, decide_eq_true (by omega)]
    · rw [decide_eq_false h24, Bool.false_and]
      refine Ev.congr (fun k => ?_) no
      show value_Name.f k s = _
      rw [value_Name.f, if_neg hne, if_pos (by omega)]
theorem name_go (s : ByteArray) (hs : s.size ≤ 24) : ∀ (cs : List UInt8) (i : Nat), 0 < i → s.data.toList.drop i = cs → i ≤ s.size → Ev (fun k => prompterref04_Name.l0 k s (i : Int)) (cs.all isInn)
  | [], i, h0, h, hi => by
    refine Ev.step (f := fun _ => some _) (fun k => ?_) (Ev.now _)
    show prompterref04_Name.l0 (k + 1) s _ = _
    rw [prompterref04_Name.l0, if_neg (drop_nil h)]
    rfl
  | c :: cs, i, h0, h, hi => by
    obtain ⟨hb, hlt, hd⟩ := bt_get h
    have hc := inn_num c
    have w1 : wrap64 ((i : Int) + 1) = ((i + 1 : Nat) : Int) := w64 (by omega) (by omega)
    by_cases hin : isInn c = true
    · have hc2 := hc.1 hin
      rw [List.all_cons, hin, Bool.true_and]
      refine Ev.step (fun k => ?_) (name_go s hs cs (i + 1) (by omega) hd (by omega))
      show prompterref04_Name.l0 (k + 1) s _ = _
      rw [prompterref04_Name.l0, if_pos (by omega), if_pos (by omega), hb, w1]
      clear w1 hb
      repeat' split
      all_goals first | rfl | (exfalso; omega)
    · have hc2 : ¬ ((97 ≤ c.toNat ∧ c.toNat ≤ 122) ∨ (48 ≤ c.toNat ∧ c.toNat ≤ 57) ∨ c.toNat = 95) := fun x => hin (hc.2 x)
      rw [List.all_cons, Bool.eq_false_iff.mpr hin, Bool.false_and]
      refine Ev.step (f := fun _ => some false) (fun k => ?_) (Ev.now _)
      show prompterref04_Name.l0 (k + 1) s _ = _
      rw [prompterref04_Name.l0, if_pos (by omega), if_pos (by omega), hb, w1]
      clear w1 hb
      repeat' split
      all_goals first | rfl | (exfalso; omega)
theorem name_is (s : ByteArray) : Ev (fun k => prompterref04_Name.f k s) (nameL s.data.toList) := by
  have e : s.data.toList.length = s.size := by simp
  have no : Ev (fun k => prompterref04_Name.j0 k s true) false := Ev.step (f := fun _ => some false) (fun k => by show prompterref04_Name.j0 (k + 1) s true = _; rw [prompterref04_Name.j0, if_pos rfl]) (Ev.now _)
  unfold nameL
  cases hl : s.data.toList with
  | nil =>
    rw [hl] at e
    rw [Bool.and_false]
    refine Ev.congr (fun k => ?_) no
    show prompterref04_Name.f k s = _
    rw [prompterref04_Name.f, if_pos (by simp at e; omega)]
  | cons c cs =>
    obtain ⟨hb, hlt, hd⟩ := bt_get (s := s) (i := 0) (c := c) (cs := cs) (by simpa using hl)
    have hb0 : bt s 0 = (c.toNat : Int) := hb
    have e2 : (c :: cs).length = s.size := by rw [← hl]; exact e
    rw [e2]
    (try dsimp only)
    by_cases h24 : s.size ≤ 24
    · rw [decide_eq_true h24, Bool.true_and]
      have start : ∀ r, Ev (fun k => prompterref04_Name.l0 k s 0) r → Ev (fun k => prompterref04_Name.f k s) r := by
        intro r hr
        refine Ev.congr (f := fun k => prompterref04_Name.j0 k s false) (fun k => ?_) (Ev.step (fun k => ?_) hr)
        · show prompterref04_Name.f k s = _
          rw [prompterref04_Name.f, if_neg (by omega), decide_eq_false (by omega)]
        · show prompterref04_Name.j0 (k + 1) s false = _
          rw [prompterref04_Name.j0, if_neg (by decide)]
      refine start _ ?_
      have hln := low_num c
      by_cases hlow : isLow c = true
      · have hn := hln.1 hlow
        rw [hlow, Bool.true_and]
        have := name_go s h24 cs 1 (by omega) hd (by omega)
        refine Ev.step (fun k => ?_) this
        show prompterref04_Name.l0 (k + 1) s 0 = _
        rw [prompterref04_Name.l0, if_pos (by omega), if_pos (by omega), hb0, show wrap64 ((0 : Int) + 1) = ((1 : Nat) : Int) from w64 (by decide) (by decide)]
        repeat' split
        all_goals first | rfl | (exfalso; omega)
      · have hn : ¬ (97 ≤ c.toNat ∧ c.toNat ≤ 122) := fun x => hlow (hln.2 x)
        rw [Bool.eq_false_iff.mpr hlow, Bool.false_and]
        refine Ev.step (f := fun _ => some false) (fun k => ?_) (Ev.now _)
        show prompterref04_Name.l0 (k + 1) s 0 = _
        rw [prompterref04_Name.l0, if_pos (by omega), if_pos (by omega), hb0]
        repeat' split
        all_goals first | rfl | (exfalso; omega)
    · rw [decide_eq_false h24, Bool.false_and]
      refine Ev.congr (fun k => ?_) no
      show prompterref04_Name.f k s = _
      rw [prompterref04_Name.f, if_neg (by omega), decide_eq_true (by omega)]
theorem ite_or (c : Prop) [Decidable c] (b : Bool) : (if c then some true else some b) = some (decide c || b) := by
  by_cases h : c <;> simp [h]
theorem among_l (x : ByteArray) (l : List ByteArray) (hl : l.length < 1000) : ∀ (d : Nat) (i : Nat) (k : Nat), i + d = l.length → d < k →
    prompterref07_Among.l0 k l x (i : Int) = some ((l.drop i).any fun y => decide (y.toList = x.toList)) := by
  intro d
  induction d with
  | zero =>
    intro i k hi hk
    obtain ⟨k, rfl⟩ : ∃ m, k = m + 1 := ⟨k - 1, by omega⟩
    simp only [prompterref07_Among.l0]
    rw [if_neg (by omega), List.drop_eq_nil_of_le (by omega)]
    rfl
  | succ d ih =>
    intro i k hi hk
    obtain ⟨k, rfl⟩ : ∃ m, k = m + 1 := ⟨k - 1, by omega⟩
    simp only [prompterref07_Among.l0]
    rw [if_pos (by omega), if_pos (by omega)]
    have hw : wrap64 ((i : Int) + 1) = ((i + 1 : Nat) : Int) := by unfold wrap64; omega
    have hlt : i < l.length := by omega
    have hrd : rdOf ByteArray.empty l (i : Int) = l[i] := by simp [rdOf, List.getD_eq_getElem?_getD, hlt]
    rw [hw, ih (i + 1) k (by omega) (by omega), hrd, List.drop_eq_getElem_cons hlt, List.any_cons, ite_or]
theorem keyword_any (x : ByteArray) (W : List ByteArray) (hW : prompterref07_Words.f = some W) (hW' : W.length = 28) :
    prompterref07_Keyword.f 40 x = some (W.any fun y => decide (y.toList = x.toList)) := by
  unfold prompterref07_Keyword.f
  rw [hW]
  simp only [Option.bind_some]
  have := among_l x W (by omega) 28 0 40 (by omega) (by omega)
  unfold prompterref07_Among.f
  rw [show ((0 : Nat) : Int) = 0 from rfl] at this
  rw [this]
  simp
theorem keyword_eq (x : ByteArray) : ∃ b, token_Keyword.f x = some b ∧ Ev (fun k => prompterref07_Keyword.f k x) b := by
  refine ⟨_, ?_, Ev.of (prompterref07_Keyword.mono x) (keyword_any x _ rfl rfl)⟩
  unfold token_Keyword.f
  simp only [ite_or]
  congr 1
  simp only [List.any_cons, List.any_nil]
  simp only [ByteArray.toList_eq]
  have e : ∀ l : List UInt8, decide (x.data.toList = l) = decide (l = x.data.toList) := fun l => by simp [eq_comm]
  simp only [e]
theorem own_both (x : ByteArray) : ∃ b, Ev (fun k => tree_own.f k x) b ∧ Ev (fun k => prompterref08_Own.f k x) b := by
  obtain ⟨b, h1, h2⟩ := keyword_eq x
  refine ⟨if nameL x.data.toList = true then !b else false, ?_, ?_⟩
  · refine Ev.bind (f := fun _ t => if t = true then ((token_Keyword.f x).bind fun t346 => (some (!t346))) else (some false)) (value_is x) ?_
    refine Ev.congr (f := fun _ => some _) (fun k => ?_) (Ev.now _)
    rw [h1]
    split <;> rfl
  · refine Ev.bind (f := fun k t => if t = true then ((prompterref07_Keyword.f k x).bind fun t389 => (some (!t389))) else (some false)) (name_is x) ?_
    by_cases hn : nameL x.data.toList = true
    · rw [if_pos hn]
      exact Ev.congr (fun k => if_pos hn) (Ev.bind h2 (Ev.now _))
    · rw [if_neg hn]
      exact Ev.congr (fun k => if_neg hn) (Ev.now _)
end Go.Proofs.Ytlbchdalimngjaa.Tree
namespace Go.Proofs.Ytlbchdalimngjaa.Tree
open Go.RowKit Go.Proofs.YtlbchdalimngjaaW.PrintWords Go.Proofs.YtlbchdalimngjaaW.PrintLast Go.Proofs.Ytlbchdalimngjaa.P Go.Proofs.Ytlbchdalimngjaa.Lex
set_option linter.unusedVariables false
set_option linter.unusedSimpArgs false
def exprB (op : Int) : Bool := decide ((20 ≤ op ∧ op ≤ 26) ∨ (30 ≤ op ∧ op ≤ 48) ∨ (50 ≤ op ∧ op ≤ 57))
def stmtB (op : Int) : Bool := decide (4 ≤ op ∧ op ≤ 11)
def okOp (op : Int) : Bool := exprB op || stmtB op || decide (1 ≤ op ∧ op ≤ 3)
def namedB (op : Int) : Bool := decide (op = 1 ∨ op = 2 ∨ op = 4 ∨ op = 5 ∨ op = 26 ∨ op = 56 ∨ op = 50 ∨ op = 51)
def leastI (op : Int) : Int := (prompterref08_Least.f 9 op).getD 0
def mostI (op : Int) : Int := (prompterref08_Most.f 9 op).getD 0
theorem refexpr_is (op : Int) : prompterref08_Expression.f op = some (exprB op) := by
  unfold prompterref08_Expression.f exprB
  repeat' split
  all_goals (congr 1; first | (symm; exact decide_eq_true (by omega)) | (symm; exact decide_eq_false (by omega)) | exact decide_eq_decide.2 (by omega))
theorem refstmt_is (op : Int) : prompterref08_Statement.f op = some (stmtB op) := by
  unfold prompterref08_Statement.f stmtB
  repeat' split
  all_goals (congr 1; first | (symm; exact decide_eq_true (by omega)) | (symm; exact decide_eq_false (by omega)) | exact decide_eq_decide.2 (by omega))
theorem stmt_is (op : Int) : tree_Statement.f op = some (stmtB op) := refstmt_is op
theorem expr_is (op : Int) : tree_Expression.f 9 op = some (exprB op) := by
  have e0 : ∀ x b, tree_Expression.j0 9 x b = if b = true then some true else if x ≥ 30 then tree_Expression.j1 8 x (decide (x ≤ 48)) else tree_Expression.j1 8 x false := fun _ _ => rfl
  have e1 : ∀ x b, tree_Expression.j1 8 x b = if b = true then some true else if x ≥ 50 then (if x ≤ 57 then some true else some false) else some false := fun _ _ => rfl
  unfold tree_Expression.f exprB
  simp only [e0, e1, decide_eq_true_eq]
  repeat' split
  all_goals (congr 1; first | (symm; exact decide_eq_true (by omega)) | (symm; exact decide_eq_false (by omega)) | (exfalso; simp_all; done))
theorem named_is (op : Int) : prompterref08_named.f op = some (namedB op) := by
  unfold prompterref08_named.f namedB
  repeat' split
  all_goals (congr 1; first | (symm; exact decide_eq_true (by omega)) | (rw [Bool.eq_iff_iff]; simp; omega))
theorem ok_range {op : Int} (h : okOp op = true) : ∃ n : Nat, op = (n : Int) ∧ n < 58 := by
  unfold okOp exprB stmtB at h
  simp at h
  exact ⟨op.toNat, by omega, by omega⟩
theorem least_is {op : Int} (h : okOp op = true) : Ev (fun k => prompterref08_Least.f k op) (leastI op) ∧ 0 ≤ leastI op := by
  obtain ⟨n, rfl, hn⟩ := ok_range h
  have key : ∀ n : Nat, n < 58 → prompterref08_Least.f 9 (n : Int) = some (leastI (n : Int)) ∧ 0 ≤ leastI (n : Int) := by decide +kernel
  exact ⟨Ev.of (prompterref08_Least.mono _) (key n hn).1, (key n hn).2⟩
theorem most_is {op : Int} (h : okOp op = true) : Ev (fun k => prompterref08_Most.f k op) (mostI op) ∧ mostI op ≤ 3 := by
  obtain ⟨n, rfl, hn⟩ := ok_range h
  have key : ∀ n : Nat, n < 58 → prompterref08_Most.f 9 (n : Int) = some (mostI (n : Int)) ∧ mostI (n : Int) ≤ 3 := by decide +kernel
  exact ⟨Ev.of (prompterref08_Most.mono _) (key n hn).1, (key n hn).2⟩
def textB (op : Int) (s : ByteArray) (own : Bool) : Bool := if namedB op = true then own else if op = 24 then decide ((s.size : Int) ≤ 4095) else decide (s.toList = [])
def kidsB (op kids : Int) : Bool := decide (leastI op ≤ kids ∧ kids ≤ (if mostI op < 0 then 2048 else mostI op))
def intB (op v : Int) : Bool := decide (v = 0 ∨ (0 ≤ v ∧ op = 23))
def fineB (x : S43) (own : Bool) : Bool := okOp x.f0 && (textB x.f0 x.f3 own && (intB x.f0 x.f2 && kidsB x.f0 x.f1))
theorem fine_is (x : S43) (own : Bool) (h : Ev (fun k => prompterref08_Own.f k x.f3) own) : Ev (fun k => prompterref08_fine.f k x.f0 x.f1 x.f2 x.f3) (fineB x own) := by
  have no0 : Ev (fun k => prompterref08_fine.j0 k true x.f0 x.f1 x.f2 x.f3) false := Ev.step (f := fun _ => some false) (fun k => by show prompterref08_fine.j0 (k + 1) true _ _ _ _ = _; rw [prompterref08_fine.j0, if_pos rfl]) (Ev.now _)
  have no2 : Ev (fun k => prompterref08_fine.j2 k true x.f0 x.f1 x.f2 x.f3) false := Ev.step (f := fun _ => some false) (fun k => by show prompterref08_fine.j2 (k + 1) true _ _ _ _ = _; rw [prompterref08_fine.j2, if_pos rfl]) (Ev.now _)
  unfold fineB
  by_cases ho : okOp x.f0 = true
  · rw [ho, Bool.true_and]
    obtain ⟨hl, hl0⟩ := least_is ho
    obtain ⟨hm, hm3⟩ := most_is ho
    have kids : Ev (fun k => prompterref08_fine.j2 k false x.f0 x.f1 x.f2 x.f3) (kidsB x.f0 x.f1) := by
      refine Ev.step (f := fun k => (prompterref08_Least.f k x.f0).bind fun t396 => (if x.f1 ≥ t396 then ((prompterref08_Most.f k x.f0).bind fun t397 => (if t397 < 0 then (if x.f1 ≤ 2048 then (some true) else ((prompterref08_Most.f k x.f0).bind fun t398 => (some (decide (x.f1 ≤ t398))))) else ((prompterref08_Most.f k x.f0).bind fun t399 => (some (decide (x.f1 ≤ t399)))))) else (some false))) (fun k => ?_) (Ev.bind hl ?_)
      · show prompterref08_fine.j2 (k + 1) false _ _ _ _ = _
        rw [prompterref08_fine.j2, if_neg (by decide)]
      unfold kidsB
      by_cases h1 : x.f1 ≥ leastI x.f0
      · simp only [if_pos h1]
        refine Ev.bind hm ?_
        by_cases h2 : mostI x.f0 < 0
        · simp only [if_pos h2]
          by_cases h3 : x.f1 ≤ 2048
          · simp only [if_pos h3]
            rw [decide_eq_true ⟨h1, h3⟩]
            exact Ev.now _
          · simp only [if_neg h3]
            rw [decide_eq_false (fun y => h3 y.2)]
            refine Ev.bind hm ?_
            rw [decide_eq_false (by omega)]
            exact Ev.now _
        · simp only [if_neg h2]
          refine Ev.bind hm ?_
          have e : decide (leastI x.f0 ≤ x.f1 ∧ x.f1 ≤ mostI x.f0) = decide (x.f1 ≤ mostI x.f0) := decide_eq_decide.2 ⟨fun y => y.2, fun y => ⟨h1, y⟩⟩
          rw [e]
          exact Ev.now _
      · simp only [if_neg h1]
        rw [decide_eq_false (fun y => h1 y.1)]
        exact Ev.now _
    have ints : Ev (fun k => prompterref08_fine.j1 k x.f0 x.f1 x.f2 x.f3) (intB x.f0 x.f2 && kidsB x.f0 x.f1) := by
      unfold intB
      by_cases h1 : x.f2 < 0
      · rw [decide_eq_false (by omega), Bool.false_and]
        refine Ev.step (fun k => ?_) no2
        show prompterref08_fine.j1 (k + 1) _ _ _ _ = _
        rw [prompterref08_fine.j1, if_pos h1]
      by_cases h2 : x.f2 > 0
      · by_cases h3 : x.f0 = 23
        · rw [decide_eq_true (by omega), Bool.true_and]
          refine Ev.step (fun k => ?_) kids
          show prompterref08_fine.j1 (k + 1) _ _ _ _ = _
          rw [prompterref08_fine.j1, if_neg h1, if_pos h2, bne_eq_false_iff_eq.mpr h3]
        · rw [decide_eq_false (by omega), Bool.false_and]
          refine Ev.step (fun k => ?_) no2
          show prompterref08_fine.j1 (k + 1) _ _ _ _ = _
          rw [prompterref08_fine.j1, if_neg h1, if_pos h2, bne_iff_ne.mpr h3]
      · rw [decide_eq_true (by omega), Bool.true_and]
        refine Ev.step (fun k => ?_) kids
        show prompterref08_fine.j1 (k + 1) _ _ _ _ = _
        rw [prompterref08_fine.j1, if_neg h1, if_neg h2]
    have texts : Ev (fun k => prompterref08_fine.j0 k false x.f0 x.f1 x.f2 x.f3) (textB x.f0 x.f3 own && (intB x.f0 x.f2 && kidsB x.f0 x.f1)) := by
      unfold textB
      by_cases h1 : namedB x.f0 = true
      · rw [if_pos h1]
        refine Ev.step (f := fun k => (prompterref08_Own.f k x.f3).bind fun t395 => (if t395 = true then (prompterref08_fine.j1 k x.f0 x.f1 x.f2 x.f3) else (some false))) (fun k => ?_) (Ev.bind h ?_)
        · show prompterref08_fine.j0 (k + 1) false _ _ _ _ = _
          rw [prompterref08_fine.j0, if_neg (by decide), named_is, h1]
          rfl
        cases own with
        | true => rw [Bool.true_and]; exact Ev.congr (fun k => if_pos rfl) ints
        | false => rw [Bool.false_and]; exact Ev.congr (fun k => if_neg (by decide)) (Ev.now _)
      rw [if_neg h1]
      have hn : namedB x.f0 = false := Bool.eq_false_iff.mpr h1
      by_cases h2 : x.f0 = 24
      · rw [if_pos h2]
        by_cases h3 : (x.f3.size : Int) > 4095
        · rw [decide_eq_false (by omega), Bool.false_and]
          refine Ev.step (f := fun _ => some false) (fun k => ?_) (Ev.now _)
          show prompterref08_fine.j0 (k + 1) false _ _ _ _ = _
          rw [prompterref08_fine.j0, if_neg (by decide), named_is, hn]
          simp only [Option.bind_some, Bool.false_eq_true, if_false]
          rw [if_pos h2, if_pos h3]
        · rw [decide_eq_true (by omega), Bool.true_and]
          refine Ev.step (fun k => ?_) ints
          show prompterref08_fine.j0 (k + 1) false _ _ _ _ = _
          rw [prompterref08_fine.j0, if_neg (by decide), named_is, hn]
          simp only [Option.bind_some, Bool.false_eq_true, if_false]
          rw [if_pos h2, if_neg h3]
      rw [if_neg h2]
      by_cases h3 : x.f3.toList = []
      · rw [decide_eq_true h3, Bool.true_and]
        refine Ev.step (fun k => ?_) ints
        show prompterref08_fine.j0 (k + 1) false _ _ _ _ = _
        rw [prompterref08_fine.j0, if_neg (by decide), named_is, hn]
        simp only [Option.bind_some, Bool.false_eq_true, if_false]
        rw [if_neg h2, if_pos h3]
      · rw [decide_eq_false h3, Bool.false_and]
        refine Ev.step (f := fun _ => some false) (fun k => ?_) (Ev.now _)
        show prompterref08_fine.j0 (k + 1) false _ _ _ _ = _
        rw [prompterref08_fine.j0, if_neg (by decide), named_is, hn]
        simp only [Option.bind_some, Bool.false_eq_true, if_false]
        rw [if_neg h2, if_neg h3]
    refine Ev.congr (fun k => ?_) texts
    show prompterref08_fine.f k _ _ _ _ = _
    rw [prompterref08_fine.f, refexpr_is]
    unfold okOp at ho
    cases he : exprB x.f0 with
    | true => simp only [Option.bind_some, if_true]
    | false =>
      simp only [Option.bind_some, Bool.false_eq_true, if_false]
      rw [refstmt_is]
      cases hs : stmtB x.f0 with
      | true => simp only [Option.bind_some, if_true]
      | false =>
        simp only [Option.bind_some, Bool.false_eq_true, if_false]
        rw [he, hs] at ho
        simp at ho
        rw [if_neg (by omega), decide_eq_false (by omega)]
  · rw [Bool.eq_false_iff.mpr ho, Bool.false_and]
    refine Ev.congr (fun k => ?_) no0
    show prompterref08_fine.f k _ _ _ _ = _
    have ho' : okOp x.f0 = false := Bool.eq_false_iff.mpr ho
    unfold okOp at ho'
    simp only [Bool.or_eq_false_iff, decide_eq_false_iff_not] at ho'
    obtain ⟨⟨he, hs⟩, h3⟩ := ho'
    rw [prompterref08_fine.f, refexpr_is, he]
    simp only [Option.bind_some, Bool.false_eq_true, if_false]
    rw [refstmt_is, hs]
    simp only [Option.bind_some, Bool.false_eq_true, if_false]
    by_cases h1 : x.f0 < 1
    · rw [if_pos h1]
    · rw [if_neg h1, decide_eq_true (by omega)]
theorem lookup_mem {α : Type} [BEq α] [LawfulBEq α] {β : Type} {a : α} {b : β} : ∀ {L : List (α × β)}, L.lookup a = some b → (a, b) ∈ L
  | [], h => by cases h
  | (c, d) :: L, h => by
    rw [List.lookup] at h
    split at h
    · rename_i e
      rw [Option.some.inj h, eq_of_beq e]
      exact List.mem_cons_self
    · exact List.mem_cons_of_mem _ (lookup_mem h)
def txN (op : Int) : Nat := if namedB op = true then 69 else if op = 24 then 75 else 72
def ptOk (op : Int) (p : Nat) : Bool := if op = 1 then p == 70 else if op = 3 then p == 73 else if op = 6 ∨ op = 7 then p == 74 else if op = 53 then p == 77 else if mostI op = 0 then true else p == 76
theorem table : ∀ p ∈ formTab 58, okOp p.1 = true ∧ p.2.tx = txN p.1 ∧ p.2.le = leastI p.1 ∧ p.2.mo = (if mostI p.1 < 0 then 2048 else mostI p.1) ∧ ptOk p.1 p.2.pt = true := by decide +kernel
theorem form_of {op : Int} {f : P.Form} (h : formOf op = some f) : okOp op = true ∧ f.tx = txN op ∧ f.le = leastI op ∧ f.mo = (if mostI op < 0 then 2048 else mostI op) ∧ ptOk op f.pt = true := table (op, f) (lookup_mem h)
theorem form_no {op : Int} (h : formOf op = none) : okOp op = false := by
  cases ho : okOp op with
  | false => rfl
  | true =>
    obtain ⟨n, rfl, hn⟩ := ok_range ho
    have key : ∀ n : Nat, n < 58 → okOp (n : Int) = true → (formOf (n : Int)).isSome = true := by decide +kernel
    have := key n hn ho
    rw [h] at this
    cases this
theorem text_is2 {op : Int} {s : ByteArray} {own : Bool} (h : Ev (fun k => tree_own.f k s) own) : Ev (fun k => textOf k (txN op) s) (textB op s own) := by
  unfold textOf txN textB
  by_cases h1 : namedB op = true
  · simp only [if_pos h1, if_true]; exact h
  simp only [if_neg h1]
  by_cases h2 : op = 24
  · simp only [if_pos h2]
    exact Ev.congr (f := fun _ => some _) (fun k => rfl) (Ev.now _)
  · simp only [if_neg h2]
    refine Ev.congr (f := fun _ => some _) (fun k => ?_) (Ev.now _)
    show tree_empty.f s = _
    unfold tree_empty.f
    congr 1
    rw [Bool.eq_iff_iff]
    simp
theorem bad_is (x : S43) (own : Bool) (h : Ev (fun k => tree_own.f k x.f3) own) (p : Int → Bool) : Ev (fun k => tree_Check.bad k x p) (!(p x.f0 && fineB x own)) := by
  unfold tree_Check.bad fineB
  cases hf : formOf x.f0 with
  | none =>
    rw [form_no hf, Bool.false_and, Bool.and_false]
    exact Ev.now _
  | some f =>
    obtain ⟨ho, h1, h2, h3, _⟩ := form_of hf
    rw [ho, Bool.true_and]
    dsimp only
    by_cases hp : p x.f0 = true
    · simp only [if_pos hp]
      rw [hp, Bool.true_and, h1, h2, h3]
      refine Ev.bind (text_is2 h) ?_
      cases ht : textB x.f0 x.f3 own with
      | false => exact Ev.congr (fun k => if_neg (by decide)) (Ev.now _)
      | true =>
        rw [Bool.true_and]
        simp only [if_true]
        unfold intB kidsB
        refine Ev.congr (f := fun _ => some _) (fun k => ?_) (Ev.now _)
        repeat' split
        all_goals (congr 1; rw [Bool.eq_iff_iff]; simp; omega)
    · simp only [if_neg hp]
      rw [Bool.eq_false_iff.mpr hp, Bool.false_and]
      exact Ev.now _
end Go.Proofs.Ytlbchdalimngjaa.Tree
namespace Go.Proofs.Ytlbchdalimngjaa.Tree
open Go.RowKit Go.Proofs.YtlbchdalimngjaaW.PrintWords Go.Proofs.YtlbchdalimngjaaW.PrintLast Go.Proofs.Ytlbchdalimngjaa.P Go.Proofs.Ytlbchdalimngjaa.Lex
set_option linter.unusedVariables false
set_option linter.unusedSimpArgs false
def refPart (op i n q : Int) : Bool := if op = 1 then (if i = n - 1 then q == 3 else q == 2) else if op = 3 then stmtB q else if op = 6 ∨ op = 7 then (if i > 0 then q == 3 else exprB q) else if op = 53 then q == 3 else exprB q
theorem part_is (op i n q : Int) (hn : 0 ≤ n ∧ n ≤ 2048) : Ev (fun k => prompterref08_part.f k op i n q) (refPart op i n q) := by
  have ew : wrap64 (n - 1) = n - 1 := by unfold wrap64; omega
  unfold refPart
  by_cases h1 : op = 1
  · rw [if_pos h1]
    refine Ev.congr (f := fun _ => some _) (fun k => ?_) (Ev.now _)
    show prompterref08_part.f k _ _ _ _ = _
    rw [prompterref08_part.f, if_pos h1, ew]
    split <;> rfl
  rw [if_neg h1]
  by_cases h3 : op = 3
  · rw [if_pos h3]
    refine Ev.congr (f := fun _ => some _) (fun k => ?_) (Ev.now _)
    show prompterref08_part.f k _ _ _ _ = _
    rw [prompterref08_part.f, if_neg h1, if_pos h3, refstmt_is]
    rfl
  rw [if_neg h3]
  by_cases h6 : op = 6 ∨ op = 7
  · rw [if_pos h6]
    refine Ev.congr (f := fun k => prompterref08_part.j0 k i q op true) (fun k => ?_) (Ev.step (f := fun _ => some _) (fun k => ?_) (Ev.now _))
    · show prompterref08_part.f k _ _ _ _ = _
      rw [prompterref08_part.f, if_neg h1, if_neg h3]
      by_cases h : op = 6
      · rw [if_pos h, beq_iff_eq.mpr h]
      · rw [if_neg h, beq_iff_eq.mpr (show op = 7 by omega)]
    · show prompterref08_part.j0 (k + 1) _ _ _ _ = _
      rw [prompterref08_part.j0, if_pos rfl, refexpr_is]
      split <;> rfl
  · rw [if_neg h6]
    refine Ev.congr (f := fun k => prompterref08_part.j0 k i q op false) (fun k => ?_) (Ev.step (f := fun _ => some _) (fun k => ?_) (Ev.now _))
    · show prompterref08_part.f k _ _ _ _ = _
      rw [prompterref08_part.f, if_neg h1, if_neg h3, if_neg (by omega), beq_eq_false_iff_ne.mpr (show op ≠ 7 by omega)]
    · show prompterref08_part.j0 (k + 1) _ _ _ _ = _
      rw [prompterref08_part.j0, if_neg (by decide), refexpr_is]
      split <;> rfl
theorem partB_is {op : Int} {f : P.Form} (hf : formOf op = some f) (i n q : Int) (h0 : 0 ≤ i) (hi : i < n) (hk : kidsB op n = true) (hn : n ≤ 2048) : partB f.pt i n q = refPart op i n q := by
  obtain ⟨ho, _, _, _, hp⟩ := form_of hf
  have ew : wrap64 (n - 1) = n - 1 := by unfold wrap64; omega
  unfold ptOk at hp
  unfold partB refPart
  by_cases h1 : op = 1
  · rw [if_pos h1] at hp
    rw [eq_of_beq hp, if_pos h1]
    simp only [partOf, Nat.reduceEqDiff, if_true, if_false, tree_params.f, ew]
    by_cases h : i = n - 1
    · rw [if_neg (by omega), if_pos h, if_pos h]; rfl
    · rw [if_pos (by omega), if_neg h, if_neg h]
      by_cases hq : q = 2
      · rw [if_pos hq, beq_iff_eq.mpr hq]; rfl
      · rw [if_neg hq, beq_eq_false_iff_ne.mpr hq]; rfl
  rw [if_neg h1] at hp ⊢
  by_cases h3 : op = 3
  · rw [if_pos h3] at hp ⊢
    rw [eq_of_beq hp]
    simp only [partOf, Nat.reduceEqDiff, if_true, if_false, tree_stmt.f, stmt_is]
    rfl
  rw [if_neg h3] at hp ⊢
  by_cases h6 : op = 6 ∨ op = 7
  · rw [if_pos h6] at hp ⊢
    rw [eq_of_beq hp]
    simp only [partOf, Nat.reduceEqDiff, if_true, if_false, tree_headed.f, expr_is, Option.bind_some]
    by_cases h : i = 0
    · rw [if_pos h, h]
      cases exprB q <;> rfl
    · rw [if_neg h, if_pos (by omega), if_pos (by omega)]; rfl
  rw [if_neg h6] at hp ⊢
  by_cases h53 : op = 53
  · rw [if_pos h53] at hp ⊢
    rw [eq_of_beq hp]
    simp only [partOf, Nat.reduceEqDiff, if_true, if_false, tree_block.f]
    rfl
  rw [if_neg h53] at hp ⊢
  by_cases h0' : mostI op = 0
  · exfalso
    unfold kidsB at hk
    rw [h0'] at hk
    simp at hk
    omega
  rw [if_neg h0'] at hp
  rw [eq_of_beq hp]
  simp only [partOf, Nat.reduceEqDiff, if_true, if_false, tree_expr.f, expr_is, Option.bind_some]
  rfl
theorem rd85_last (st : List S85) (fr : S85) (h : st.length ≤ 5000) : rd_T85 (st ++ [fr]) (wrap64 (((st ++ [fr]).length : Int) - 1)) = fr := by
  have : wrap64 (((st ++ [fr]).length : Int) - 1) = (st.length : Int) := by rw [List.length_append, List.length_singleton]; unfold wrap64; omega
  rw [this, rd_T85, Int.toNat_natCast, List.getD_eq_getElem?_getD, List.getElem?_append_right (Nat.le_refl _), Nat.sub_self]
  rfl
theorem last_ok (st : List S85) (fr : S85) (h : st.length ≤ 5000) : ((st ++ [fr]).length : Int) > 0 ∧ 0 ≤ wrap64 (((st ++ [fr]).length : Int) - 1) ∧ wrap64 (((st ++ [fr]).length : Int) - 1) < ((st ++ [fr]).length : Int) ∧ (wrap64 (((st ++ [fr]).length : Int) - 1)).toNat = st.length := by
  have : wrap64 (((st ++ [fr]).length : Int) - 1) = (st.length : Int) := by rw [List.length_append, List.length_singleton]; unfold wrap64; omega
  rw [this, List.length_append, List.length_singleton]
  omega
theorem l1_stop (l : List S43) (st : List S85) (fr : S85) (h : st.length ≤ 5000) (hne : fr.f1 ≠ fr.f2) (dp : Int) (at_ : Nat) (ha : 1 ≤ at_ ∧ at_ ≤ 5000) (r : Int × Int) (hr : Ev (fun k => prompterref08_Check.l0 k l (st ++ [fr]) dp (at_ : Int)) r) :
    Ev (fun k => prompterref08_Check.l1 k l (st ++ [fr]) dp ((at_ : Int) - 1)) r := by
  obtain ⟨a, b, c, d⟩ := last_ok st fr h
  refine Ev.step (f := fun k => prompterref08_Check.j6 k l (st ++ [fr]) dp ((at_ : Int) - 1) false) (fun k => ?_) (Ev.step (fun k => ?_) hr)
  · show prompterref08_Check.l1 (k + 1) _ _ _ _ = _
    rw [prompterref08_Check.l1, if_pos a, if_pos b, if_pos c, rd85_last st fr h, beq_eq_false_iff_ne.mpr hne]
  · show prompterref08_Check.j6 (k + 1) _ _ _ _ _ = _
    rw [prompterref08_Check.j6, if_neg (by decide)]
    have : wrap64 ((at_ : Int) - 1 + 1) = (at_ : Int) := by unfold wrap64; omega
    rw [this]
theorem l1_pop (l : List S43) (st : List S85) (up fr : S85) (h : st.length ≤ 4000) (he : fr.f1 = fr.f2) (hw : 0 ≤ up.f1 ∧ up.f1 ≤ 5000) (dp at_ : Int) (r : Int × Int) (hr : Ev (fun k => prompterref08_Check.l1 k l (st ++ [⟨up.f0, up.f1 + 1, up.f2⟩]) dp at_) r) :
    Ev (fun k => prompterref08_Check.l1 k l (st ++ [up] ++ [fr]) dp at_) r := by
  have h2 : (st ++ [up]).length ≤ 5000 := by rw [List.length_append, List.length_singleton]; omega
  obtain ⟨a, b, c, d⟩ := last_ok (st ++ [up]) fr h2
  obtain ⟨a', b', c', d'⟩ := last_ok st up (by omega)
  refine Ev.step (f := fun k => prompterref08_Check.j6 k l (st ++ [up] ++ [fr]) dp at_ true) (fun k => ?_) (Ev.step (fun k => ?_) hr)
  · show prompterref08_Check.l1 (k + 1) _ _ _ _ = _
    rw [prompterref08_Check.l1, if_pos a, if_pos b, if_pos c, rd85_last (st ++ [up]) fr h2, beq_iff_eq.mpr he]
  · show prompterref08_Check.j6 (k + 1) _ _ _ _ _ = _
    rw [prompterref08_Check.j6, if_pos rfl, if_pos b, if_pos (Int.le_of_lt c), d, List.take_left]
    simp only [Option.bind_some]
    rw [if_pos a', if_pos b', if_pos c', rd85_last st up (by omega), d']
    have e1 : wrap64 (up.f1 + 1) = up.f1 + 1 := by unfold wrap64; omega
    have e2 : (st ++ [up]).set st.length ⟨up.f0, wrap64 (up.f1 + 1), up.f2⟩ = st ++ [⟨up.f0, up.f1 + 1, up.f2⟩] := by
      rw [e1, List.set_append_right _ _ (Nat.le_refl _), Nat.sub_self]
      rfl
    rw [e2]
theorem l1_last (l : List S43) (fr : S85) (he : fr.f1 = fr.f2) (dp : Int) (at_ : Nat) (ha : 1 ≤ at_ ∧ at_ ≤ 5000) (r : Int × Int) (hr : Ev (fun k => prompterref08_Check.l0 k l [] dp (at_ : Int)) r) :
    Ev (fun k => prompterref08_Check.l1 k l [fr] dp ((at_ : Int) - 1)) r := by
  have w : wrap64 (((([fr] : List S85).length : Nat) : Int) - 1) = 0 := by unfold wrap64; simp
  refine Ev.step (f := fun k => prompterref08_Check.j6 k l [fr] dp ((at_ : Int) - 1) true) (fun k => ?_) (Ev.step (f := fun k => prompterref08_Check.l1 k l [] dp ((at_ : Int) - 1)) (fun k => ?_) (Ev.step (f := fun k => prompterref08_Check.j6 k l [] dp ((at_ : Int) - 1) false) (fun k => ?_) (Ev.step (fun k => ?_) hr)))
  · show prompterref08_Check.l1 (k + 1) _ _ _ _ = _
    rw [prompterref08_Check.l1, w, if_pos (by simp), if_pos (by decide), if_pos (by simp)]
    have : rd_T85 [fr] 0 = fr := rfl
    rw [this, beq_iff_eq.mpr he]
  · show prompterref08_Check.j6 (k + 1) _ _ _ _ _ = _
    rw [prompterref08_Check.j6, if_pos rfl, w, if_pos (by decide), if_pos (by simp)]
    rfl
  · show prompterref08_Check.l1 (k + 1) _ _ _ _ = _
    rw [prompterref08_Check.l1, if_neg (by simp)]
  · show prompterref08_Check.j6 (k + 1) _ _ _ _ _ = _
    rw [prompterref08_Check.j6, if_neg (by decide)]
    have : wrap64 ((at_ : Int) - 1 + 1) = (at_ : Int) := by unfold wrap64; omega
    rw [this]
end Go.Proofs.Ytlbchdalimngjaa.Tree
namespace Go.Proofs.Ytlbchdalimngjaa.Tree
open Go.RowKit Go.Proofs.YtlbchdalimngjaaW.PrintWords Go.Proofs.YtlbchdalimngjaaW.PrintLast Go.Proofs.Ytlbchdalimngjaa.P Go.Proofs.Ytlbchdalimngjaa.Lex
set_option linter.unusedVariables false
set_option linter.unusedSimpArgs false
def topP (st : List S85) (q : Int) : Bool := match st.getLast? with
  | none => true
  | some fr => refPart fr.f0 fr.f1 fr.f2 q
def done (x : S43) : S85 := ⟨x.f0, x.f1, x.f1⟩
theorem topP_snoc (st : List S85) (fr : S85) (q : Int) : topP (st ++ [fr]) q = refPart fr.f0 fr.f1 fr.f2 q := by
  unfold topP
  rw [List.getLast?_append]
  rfl
def Goes (l : List S43) (w : Int × Int × Int) (low : Nat) (fin : List S85) (start : Nat → Option (Int × Int)) : Prop :=
  (0 ≤ w.2.1 ∧ Ev start (w.2.1, 3)) ∨ (w.2.1 = -1 ∧ ∃ m : Nat, w.1 = (m : Int) ∧ low ≤ m ∧ m ≤ l.length ∧ ∀ r, Ev (fun k => prompterref08_Check.l1 k l fin w.2.2 ((m : Int) - 1)) r → Ev start r)
def WalkOk (l : List S43) (n : Nat) : Prop := ∀ (at_ : Nat) (p : Int → Bool) (dp : Int) (st : List S85), l.length - at_ < n → at_ ≤ l.length → st.length ≤ at_ → (0 < at_ → st ≠ []) → (∀ q, p q = topP st q) → (∀ fr, st.getLast? = some fr → 0 ≤ fr.f2 ∧ fr.f2 ≤ 2048) →
  ∃ w, Ev (fun k => tree_Check.walk l k (at_ : Int) ((st.length : Int) + 1) p (-1) dp) w ∧ Goes l w (at_ + 1) (st ++ [done (rd_T43 l (at_ : Int))]) (fun k => prompterref08_Check.l0 k l st dp (at_ : Int))
def KidsOk (l : List S43) (n : Nat) : Prop := ∀ (nx : Nat) (x : S43) (i : Nat) (dp : Int) (st : List S85), l.length - nx < n → nx ≤ l.length → 1 ≤ nx → st.length < nx → (i : Int) ≤ x.f1 → x.f1 ≤ 2048 → (∃ f, formOf x.f0 = some f) → kidsB x.f0 x.f1 = true →
  ∃ w, Ev (fun k => tree_Check.kids l k x (nx : Int) ((st.length : Int) + 1) (i : Int) (-1) dp) w ∧ Goes l w nx (st ++ [done x]) (fun k => prompterref08_Check.l1 k l (st ++ [⟨x.f0, (i : Int), x.f1⟩]) dp ((nx : Int) - 1))
theorem kids_ok {l : List S43} (hl : l.length ≤ 2048) {n : Nat} (A : WalkOk l (n + 1)) (B : KidsOk l n) : KidsOk l (n + 1) := by
  intro nx x i dp st hn hle h1 hst hi h2048 hform hkids
  by_cases hend : (i : Int) < x.f1
  · obtain ⟨f, hf⟩ := hform
    have hp : ∀ q, (fun op => partB ((formOf x.f0).getD ⟨0, 0, 0, 0⟩).pt (i : Int) x.f1 op) q = topP (st ++ [⟨x.f0, (i : Int), x.f1⟩]) q := by
      intro q
      rw [topP_snoc, hf]
      exact partB_is hf (i : Int) x.f1 q (by omega) hend hkids h2048
    obtain ⟨w, hw, hg⟩ := A nx (fun op => partB ((formOf x.f0).getD ⟨0, 0, 0, 0⟩).pt (i : Int) x.f1 op) dp (st ++ [⟨x.f0, (i : Int), x.f1⟩]) hn hle (by rw [List.length_append, List.length_singleton]; omega) (fun _ => by simp) hp (by
      intro fr hfr
      rw [List.getLast?_append] at hfr
      have : (⟨x.f0, (i : Int), x.f1⟩ : S85) = fr := by simpa using hfr
      rw [← this]
      dsimp only
      omega)
    have ew : wrap64 (((st.length : Int) + 1) + 1) = (((st ++ [(⟨x.f0, (i : Int), x.f1⟩ : S85)]).length : Nat) : Int) + 1 := by rw [List.length_append, List.length_singleton, w64 (by omega) (by omega)]; omega
    have ei : wrap64 ((i : Int) + 1) = ((i + 1 : Nat) : Int) := w64 (by omega) (by omega)
    have kstep : ∀ v, Ev (fun k => tree_Check.kids l k x w.1 ((st.length : Int) + 1) ((i + 1 : Nat) : Int) w.2.1 w.2.2) v → Ev (fun k => tree_Check.kids l k x (nx : Int) ((st.length : Int) + 1) (i : Int) (-1) dp) v := by
      intro v hv
      refine Ev.step (f := fun k => (tree_Check.walk l k (nx : Int) (wrap64 (((st.length : Int) + 1) + 1)) (fun op => partB ((formOf x.f0).getD ⟨0, 0, 0, 0⟩).pt (i : Int) x.f1 op) (-1) dp).bind fun q => tree_Check.kids l k x q.1 ((st.length : Int) + 1) (wrap64 ((i : Int) + 1)) q.2.1 q.2.2) (fun k => ?_) ?_
      · show tree_Check.kids l (k + 1) _ _ _ _ _ _ = _
        rw [tree_Check.kids, if_pos hend, if_pos (by decide)]
      · rw [ew, ei]
        exact Ev.bind hw hv
    have ref1 : ∀ r, Ev (fun k => prompterref08_Check.l0 k l (st ++ [⟨x.f0, (i : Int), x.f1⟩]) dp (nx : Int)) r → Ev (fun k => prompterref08_Check.l1 k l (st ++ [⟨x.f0, (i : Int), x.f1⟩]) dp ((nx : Int) - 1)) r :=
      fun r hr => l1_stop l st ⟨x.f0, (i : Int), x.f1⟩ (by omega) (by show (i : Int) ≠ x.f1; omega) dp nx ⟨h1, by omega⟩ r hr
    rcases hg with ⟨g1, g2⟩ | ⟨g1, m, g2, g3, g4, g5⟩
    · refine ⟨w, kstep w ?_, .inl ⟨g1, ref1 _ g2⟩⟩
      refine Ev.step (f := fun _ => some w) (fun k => ?_) (Ev.now _)
      show tree_Check.kids l (k + 1) _ _ _ _ _ _ = _
      rw [tree_Check.kids]
      split
      · rw [if_neg (by omega)]
      · rfl
    · obtain ⟨v, hv, hgv⟩ := B m x (i + 1) w.2.2 st (by omega) g4 (by omega) (by omega) (by omega) h2048 ⟨f, hf⟩ hkids
      have back : ∀ r, Ev (fun k => prompterref08_Check.l1 k l (st ++ [⟨x.f0, ((i + 1 : Nat) : Int), x.f1⟩]) w.2.2 ((m : Int) - 1)) r → Ev (fun k => prompterref08_Check.l1 k l (st ++ [⟨x.f0, (i : Int), x.f1⟩]) dp ((nx : Int) - 1)) r := by
        intro r hr
        refine ref1 r (g5 r ?_)
        exact l1_pop l st ⟨x.f0, (i : Int), x.f1⟩ (done (rd_T43 l (nx : Int))) (by omega) rfl ⟨by show (0 : Int) ≤ (i : Int); omega, by show (i : Int) ≤ 5000; omega⟩ w.2.2 _ r hr
      refine ⟨v, kstep v (by rw [g1, g2]; exact hv), ?_⟩
      rcases hgv with ⟨q1, q2⟩ | ⟨q1, m2, q2, q3, q4, q5⟩
      · exact .inl ⟨q1, back _ q2⟩
      · exact .inr ⟨q1, m2, q2, by omega, q4, fun r hr => back r (q5 r hr)⟩
  · have hi2 : (i : Int) = x.f1 := by omega
    refine ⟨((nx : Int), -1, dp), Ev.step (f := fun _ => some _) (fun k => ?_) (Ev.now _), .inr ⟨rfl, nx, rfl, Nat.le_refl _, hle, fun r hr => ?_⟩⟩
    · show tree_Check.kids l (k + 1) _ _ _ _ _ _ = _
      rw [tree_Check.kids, if_neg hend]
    · rw [hi2]
      exact hr
theorem walk_ok {l : List S43} (hl : l.length ≤ 2048) {n : Nat} (B : KidsOk l n) : WalkOk l (n + 1) := by
  intro at_ p dp st hn hle hst hne hp htop
  by_cases hat : at_ < l.length
  · obtain ⟨x, hx⟩ : ∃ x, x = rd_T43 l (at_ : Int) := ⟨_, rfl⟩
    rw [← hx]
    obtain ⟨own, ho1, ho2⟩ := own_both x.f3
    have hbad := bad_is x own ho1 p
    have hfine := fine_is x own ho2
    have verdict : ∀ r, Ev (fun k => prompterref08_Check.j1 k l st dp (at_ : Int) (!fineB x own) x.f0 x.f1 x.f2 x.f3) r → Ev (fun k => prompterref08_Check.l0 k l st dp (at_ : Int)) r := by
      intro r hr
      refine Ev.step (f := fun k => (prompterref08_fine.f k x.f0 x.f1 x.f2 x.f3).bind fun t405 => prompterref08_Check.j1 k l st dp (at_ : Int) (!t405) x.f0 x.f1 x.f2 x.f3) (fun k => ?_) (Ev.bind hfine hr)
      show prompterref08_Check.l0 (k + 1) _ _ _ _ = _
      rw [prompterref08_Check.l0, if_pos (by omega), if_pos (by omega), ← hx]
      by_cases h0 : 0 < at_
      · have : 0 < st.length := List.length_pos_iff.2 (hne h0)
        rw [if_pos (by omega), if_neg (by omega)]
      · rw [if_neg (by omega)]
    have wrong : Ev (fun k => prompterref08_Check.j1 k l st dp (at_ : Int) true x.f0 x.f1 x.f2 x.f3) ((at_ : Int), 3) := by
      refine Ev.step (f := fun _ => some _) (fun k => ?_) (Ev.now _)
      show prompterref08_Check.j1 (k + 1) _ _ _ _ _ _ _ _ _ = _
      rw [prompterref08_Check.j1, if_pos rfl]
    have parts : ∀ r, Ev (fun k => if topP st x.f0 = true then prompterref08_Check.j2 k l st dp (at_ : Int) x.f0 x.f1 x.f2 x.f3 else some ((at_ : Int), 3)) r → Ev (fun k => prompterref08_Check.j1 k l st dp (at_ : Int) false x.f0 x.f1 x.f2 x.f3) r := by
      intro r hr
      rcases List.eq_nil_or_concat st with hs | ⟨st', fr, hs⟩
      · subst hs
        refine Ev.step (fun k => ?_) hr
        show prompterref08_Check.j1 (k + 1) _ _ _ _ _ _ _ _ _ = _
        rw [prompterref08_Check.j1, if_neg (by decide), if_neg (by simp)]
        exact (if_pos rfl).symm
      · rw [List.concat_eq_append] at hs
        subst hs
        have hlen : st'.length ≤ 5000 := by rw [List.length_append, List.length_singleton] at hst; omega
        obtain ⟨a, b, c, d⟩ := last_ok st' fr hlen
        rw [topP_snoc] at hr
        have hfr := htop fr (by rw [List.getLast?_append]; rfl)
        refine Ev.step (f := fun k => (prompterref08_part.f k fr.f0 fr.f1 fr.f2 x.f0).bind fun t409 => (if t409 = true then (prompterref08_Check.j2 k l (st' ++ [fr]) dp (at_ : Int) x.f0 x.f1 x.f2 x.f3) else (some ((at_ : Int), 3)))) (fun k => ?_) (Ev.bind (part_is fr.f0 fr.f1 fr.f2 x.f0 hfr) hr)
        show prompterref08_Check.j1 (k + 1) _ _ _ _ _ _ _ _ _ = _
        rw [prompterref08_Check.j1, if_neg (by decide), if_pos a, if_pos b, if_pos c, rd85_last st' fr hlen]
    have wstep : ∀ v (bv : Bool), Ev (fun k => tree_Check.bad k x p) bv → Ev (fun k => if bv = true then some ((at_ : Int), (at_ : Int), dp) else tree_Check.kids l k x ((at_ + 1 : Nat) : Int) ((st.length : Int) + 1) 0 (-1) (if (st.length : Int) + 1 > 40 then (if dp < 0 then (at_ : Int) else dp) else dp)) v →
        Ev (fun k => tree_Check.walk l k (at_ : Int) ((st.length : Int) + 1) p (-1) dp) v := by
      intro v bv hb hv
      refine Ev.step (f := fun k => (tree_Check.bad k x p).bind fun b => if b = true then some ((at_ : Int), (at_ : Int), dp) else tree_Check.kids l k x ((at_ + 1 : Nat) : Int) ((st.length : Int) + 1) 0 (-1) (if (st.length : Int) + 1 > 40 then (if dp < 0 then (at_ : Int) else dp) else dp)) (fun k => ?_) (Ev.bind hb hv)
      show tree_Check.walk l (k + 1) _ _ _ _ _ = _
      rw [tree_Check.walk, if_pos (by omega), if_pos (by omega), ← hx, w64 (by omega) (by omega)]
      rfl
    cases hf : fineB x own with
    | false =>
      rw [hf, Bool.and_false] at hbad
      refine ⟨((at_ : Int), (at_ : Int), dp), wstep _ true hbad (Ev.congr (fun k => if_pos rfl) (Ev.now _)), .inl ⟨by show (0 : Int) ≤ (at_ : Int); omega, verdict _ (by rw [hf]; exact wrong)⟩⟩
    | true =>
      rw [hf, Bool.and_true, hp] at hbad
      cases ht : topP st x.f0 with
      | false =>
        rw [ht] at hbad
        refine ⟨((at_ : Int), (at_ : Int), dp), wstep _ true hbad (Ev.congr (fun k => if_pos rfl) (Ev.now _)), .inl ⟨by show (0 : Int) ≤ (at_ : Int); omega, verdict _ (by rw [hf]; exact parts _ (by rw [ht]; exact Ev.congr (fun k => if_neg (by decide)) (Ev.now _)))⟩⟩
      | true =>
        rw [ht] at hbad
        unfold fineB at hf
        simp only [Bool.and_eq_true] at hf
        obtain ⟨hok, _, _, hkids⟩ := hf
        have hform : ∃ f, formOf x.f0 = some f := by
          cases h : formOf x.f0 with
          | some f => exact ⟨f, rfl⟩
          | none => rw [form_no h] at hok; cases hok
        have hk2 := hkids
        unfold kidsB at hk2
        have hk3 := of_decide_eq_true hk2
        have hl0 := (least_is hok).2
        have hm3 := (most_is hok).2
        have h0 : (0 : Int) ≤ x.f1 := by omega
        have h2048 : x.f1 ≤ 2048 := by
          have := hk3.2
          split at this <;> omega
        obtain ⟨dq, hdq⟩ : ∃ dq, dq = (if (st.length : Int) + 1 > 40 then (if dp < 0 then (at_ : Int) else dp) else dp) := ⟨_, rfl⟩
        obtain ⟨v, hv, hg⟩ := B (at_ + 1) x 0 dq st (by omega) (by omega) (by omega) (by omega) h0 h2048 hform hkids
        refine ⟨v, wstep v false hbad (Ev.congr (fun k => if_neg (by decide)) (by rw [← hdq]; exact hv)), ?_⟩
        have enter : ∀ r, Ev (fun k => prompterref08_Check.l1 k l (st ++ [⟨x.f0, ((0 : Nat) : Int), x.f1⟩]) dq (((at_ + 1 : Nat) : Int) - 1)) r → Ev (fun k => prompterref08_Check.l0 k l st dp (at_ : Int)) r := by
          intro r hr
          refine verdict r ?_
          have hfb : fineB x own = true := by unfold fineB; simp only [Bool.and_eq_true]; exact ⟨hok, ‹_›, ‹_›, hkids⟩
          rw [hfb]
          refine parts r ?_
          rw [ht]
          refine Ev.congr (fun k => if_pos rfl) ?_
          have e1 : (((at_ + 1 : Nat) : Int) - 1) = (at_ : Int) := by omega
          rw [e1] at hr
          have push : Ev (fun k => prompterref08_Check.j4 k l st dq (at_ : Int) x.f0 x.f1 x.f2 x.f3) r := by
            refine Ev.step (fun k => ?_) hr
            show prompterref08_Check.j4 (k + 1) _ _ _ _ _ _ _ _ = _
            rw [prompterref08_Check.j4, if_pos (by omega)]
            rfl
          refine Ev.step (f := fun k => prompterref08_Check.j3 k l st dp (at_ : Int) (decide (dp < 0 ∧ (st.length : Int) ≥ 40)) x.f0 x.f1 x.f2 x.f3) (fun k => ?_) (Ev.step (fun k => ?_) push)
          · show prompterref08_Check.j2 (k + 1) _ _ _ _ _ _ _ _ = _
            rw [prompterref08_Check.j2]
            by_cases hd : dp < 0
            · rw [if_pos hd]
              congr 1
              exact decide_eq_decide.2 ⟨fun y => ⟨hd, y⟩, fun y => y.2⟩
            · rw [if_neg hd, decide_eq_false (fun y => hd y.1)]
          · show prompterref08_Check.j3 (k + 1) _ _ _ _ _ _ _ _ _ = _
            rw [prompterref08_Check.j3]
            by_cases hd : dp < 0 ∧ (st.length : Int) ≥ 40
            · rw [decide_eq_true hd, if_pos rfl, hdq, if_pos (by omega), if_pos hd.1]
            · rw [decide_eq_false hd, if_neg (by decide), hdq]
              congr 1
              split
              · rw [if_neg (by omega)]
              · rfl
        rcases hg with ⟨q1, q2⟩ | ⟨q1, m2, q2, q3, q4, q5⟩
        · exact .inl ⟨q1, enter _ q2⟩
        · exact .inr ⟨q1, m2, q2, q3, q4, fun r hr => enter r (q5 r hr)⟩
  · have he : at_ = l.length := by omega
    refine ⟨((at_ : Int), (l.length : Int), dp), Ev.step (f := fun _ => some _) (fun k => ?_) (Ev.now _), .inl ⟨by show (0 : Int) ≤ (l.length : Int); omega, ?_⟩⟩
    · show tree_Check.walk l (k + 1) _ _ _ _ _ = _
      rw [tree_Check.walk, if_neg (by omega)]
    · have j7 : Ev (fun k => prompterref08_Check.j7 k l dp true) ((l.length : Int), 3) := by
        refine Ev.step (f := fun _ => some _) (fun k => ?_) (Ev.now _)
        show prompterref08_Check.j7 (k + 1) _ _ _ = _
        rw [prompterref08_Check.j7, if_pos rfl]
      refine Ev.step (fun k => ?_) j7
      show prompterref08_Check.l0 (k + 1) _ _ _ _ = _
      rw [prompterref08_Check.l0, if_neg (by omega)]
      by_cases h0 : (l.length : Int) = 0
      · rw [if_pos h0]
      · have : 0 < st.length := List.length_pos_iff.2 (hne (by omega))
        rw [if_neg h0, decide_eq_true (by omega)]
theorem both_ok {l : List S43} (hl : l.length ≤ 2048) : ∀ n, WalkOk l n ∧ KidsOk l n
  | 0 => ⟨fun _ _ _ _ h => absurd h (Nat.not_lt_zero _), fun _ _ _ _ _ h => absurd h (Nat.not_lt_zero _)⟩
  | n + 1 => by
    obtain ⟨_, B⟩ := both_ok hl n
    have A := walk_ok hl B
    exact ⟨A, kids_ok hl A B⟩
theorem check_both (l : List S43) : ∃ r, Ev (fun k => tree_Check.f k l) r ∧ Ev (fun k => prompterref08_Check.f k l) r := by
  by_cases h : (l.length : Int) > 2048
  · refine ⟨(0, 2), Ev.congr (fun k => ?_) (Ev.now _), Ev.congr (fun k => ?_) (Ev.now _)⟩
    · show tree_Check.f k l = _
      rw [tree_Check.f, if_pos h]
    · show prompterref08_Check.f k l = _
      rw [prompterref08_Check.f, if_pos h]
  obtain ⟨w, hw, hg⟩ := (both_ok (show l.length ≤ 2048 by omega) (l.length + 1)).1 0 (fun _ => true) (-1) [] (by omega) (by omega) (by simp) (by simp) (fun q => rfl) (by simp)
  have ref : ∀ r, Ev (fun k => prompterref08_Check.l0 k l [] (-1) 0) r → Ev (fun k => prompterref08_Check.f k l) r := by
    intro r hr
    refine Ev.congr (fun k => ?_) hr
    show prompterref08_Check.f k l = _
    rw [prompterref08_Check.f, if_neg h]
  have tr : ∀ r, (if 0 ≤ w.2.1 then some (w.2.1, (3 : Int)) else if w.1 < (l.length : Int) then some (w.1, 3) else if 0 ≤ w.2.2 then some (w.2.2, 2) else some (0, 0)) = some r → Ev (fun k => tree_Check.f k l) r := by
    intro r hr
    refine Ev.congr (f := fun k => (tree_Check.walk l k 0 1 (fun _ => true) (-1) (-1)).bind fun q => if 0 ≤ q.2.1 then some (q.2.1, 3) else if q.1 < (l.length : Int) then some (q.1, 3) else if 0 ≤ q.2.2 then some (q.2.2, 2) else some (0, 0)) (fun k => ?_) (Ev.bind hw ?_)
    · show tree_Check.f k l = _
      rw [tree_Check.f, if_neg h]
    · rw [hr]
      exact Ev.now _
  rcases hg with ⟨g1, g2⟩ | ⟨g1, m, g2, g3, g4, g5⟩
  · exact ⟨(w.2.1, 3), tr _ (if_pos g1), ref _ g2⟩
  · have last : ∀ r, Ev (fun k => prompterref08_Check.l0 k l [] w.2.2 (m : Int)) r → Ev (fun k => prompterref08_Check.f k l) r := fun r hr => ref r (g5 r (l1_last l _ rfl w.2.2 m ⟨by omega, by omega⟩ r hr))
    by_cases hm : m < l.length
    · refine ⟨((m : Int), 3), tr _ (by rw [if_neg (by omega), if_pos (by omega), g2]), last _ ?_⟩
      refine Ev.step (f := fun k => prompterref08_Check.j1 k l [] w.2.2 (m : Int) true (rd_T43 l (m : Int)).f0 (rd_T43 l (m : Int)).f1 (rd_T43 l (m : Int)).f2 (rd_T43 l (m : Int)).f3) (fun k => ?_) (Ev.step (f := fun _ => some _) (fun k => ?_) (Ev.now _))
      · show prompterref08_Check.l0 (k + 1) _ _ _ _ = _
        rw [prompterref08_Check.l0, if_pos (by omega), if_pos (by omega), if_pos (by omega), if_pos (by simp)]
      · show prompterref08_Check.j1 (k + 1) _ _ _ _ _ _ _ _ _ = _
        rw [prompterref08_Check.j1, if_pos rfl]
    · have j7 : ∀ r, Ev (fun k => prompterref08_Check.j7 k l w.2.2 false) r → Ev (fun k => prompterref08_Check.l0 k l [] w.2.2 (m : Int)) r := by
        intro r hr
        refine Ev.step (fun k => ?_) hr
        show prompterref08_Check.l0 (k + 1) _ _ _ _ = _
        rw [prompterref08_Check.l0, if_neg (by omega), if_neg (by omega), decide_eq_false (by simp)]
      by_cases hd : 0 ≤ w.2.2
      · refine ⟨(w.2.2, 2), tr _ (by rw [if_neg (by omega), if_neg (by omega), if_pos hd]), last _ (j7 _ (Ev.step (f := fun _ => some _) (fun k => ?_) (Ev.now _)))⟩
        show prompterref08_Check.j7 (k + 1) _ _ _ = _
        rw [prompterref08_Check.j7, if_neg (by decide), if_pos hd]
      · refine ⟨(0, 0), tr _ (by rw [if_neg (by omega), if_neg (by omega), if_neg hd]), last _ (j7 _ (Ev.step (f := fun _ => some _) (fun k => ?_) (Ev.now _)))⟩
        show prompterref08_Check.j7 (k + 1) _ _ _ = _
        rw [prompterref08_Check.j7, if_neg (by decide), if_neg (by omega)]
end Go.Proofs.Ytlbchdalimngjaa.Tree
namespace Go.Proofs.Ytlbchdalimngjaa.Tree
open Go.RowKit Go.Proofs.YtlbchdalimngjaaW.PrintWords Go.Proofs.YtlbchdalimngjaaW.PrintLast Go.Proofs.Ytlbchdalimngjaa.P Go.Proofs.Ytlbchdalimngjaa.Lex
set_option linter.unusedVariables false
set_option linter.unusedSimpArgs false
abbrev Tw := S43
mutual
inductive T where
  | node (x : Tw) (ks : Ts)
inductive Ts where
  | nil
  | cons (t : T) (ts : Ts)
end
mutual
def T.flat : T → List Tw
  | .node x ks => x :: ks.flat
def Ts.flat : Ts → List Tw
  | .nil => []
  | .cons t ts => t.flat ++ ts.flat
end
def Ts.len : Ts → Nat
  | .nil => 0
  | .cons _ ts => ts.len + 1
mutual
def T.depth : T → Nat
  | .node _ ks => ks.depth + 1
def Ts.depth : Ts → Nat
  | .nil => 0
  | .cons t ts => max t.depth ts.depth
end
def kwB (s : ByteArray) : Bool := (token_Keyword.f s).getD false
theorem kw_some (s : ByteArray) : token_Keyword.f s = some (kwB s) := by
  unfold kwB token_Keyword.f
  simp only [ite_or]
  rfl
def ownB (s : ByteArray) : Bool := nameL s.data.toList && !kwB s
theorem own_is (s : ByteArray) : Ev (fun k => tree_own.f k s) (ownB s) := by
  refine Ev.bind (f := fun _ t => if t = true then ((token_Keyword.f s).bind fun t346 => (some (!t346))) else (some false)) (value_is s) ?_
  refine Ev.congr (f := fun _ => some _) (fun k => ?_) (Ev.now _)
  unfold ownB
  rw [kw_some]
  cases nameL s.data.toList <;> rfl
mutual
def T.ok : T → (Int → Bool) → Bool
  | .node x ks, p => p x.f0 && (fineB x (ownB x.f3) && (decide (x.f1 = (ks.len : Int)) && ks.ok x 0))
def Ts.ok : Ts → Tw → Int → Bool
  | .nil, _, _ => true
  | .cons t ts, x, i => t.ok (refPart x.f0 i x.f1) && ts.ok x (i + 1)
end
theorem T.flat_pos (t : T) : 1 ≤ t.flat.length := by
  cases t
  rw [T.flat, List.length_cons]
  omega
theorem T.depth_pos (t : T) : 1 ≤ t.depth := by
  cases t
  rw [T.depth]
  omega
theorem Ts.len_flat : (ts : Ts) → ts.len ≤ ts.flat.length
  | .nil => Nat.zero_le _
  | .cons t ts => by
    have := T.flat_pos t
    have := Ts.len_flat ts
    rw [Ts.len, Ts.flat, List.length_append]
    omega
theorem Ev.one {α : Type} {g : Nat → Option α} {a r : α} (hg : ∀ k, LeO (g k) (g (k + 1))) {k : Nat} (h : g k = some a) (e : Ev g r) : a = r := by
  obtain ⟨n, hn⟩ := Ev.of hg h
  obtain ⟨m, hm⟩ := e
  have h1 := hn (max n m) (by omega)
  have h2 := hm (max n m) (by omega)
  rw [h1] at h2
  exact Option.some.inj h2
theorem rd_tw {l : List Tw} {i : Nat} {x : Tw} {r : List Tw} (h : l.drop i = x :: r) : rd_T43 l (i : Int) = x ∧ i < l.length ∧ l.drop (i + 1) = r := by
  have hlt : i < l.length := by
    rcases Nat.lt_or_ge i l.length with h1 | h1
    · exact h1
    · rw [List.drop_eq_nil_of_le h1] at h; cases h
  rw [List.drop_eq_getElem_cons hlt] at h
  injection h with h1 h2
  refine ⟨?_, hlt, h2⟩
  unfold rd_T43
  rw [List.getD_eq_getElem?_getD, Int.toNat_natCast, List.getElem?_eq_getElem hlt, h1]
  rfl
theorem drop_app {l : List Tw} {i : Nat} {a b : List Tw} (h : l.drop i = a ++ b) : l.drop (i + a.length) = b ∧ i + a.length ≤ max l.length i := by
  have h1 : (l.drop i).drop a.length = b := by rw [h, List.drop_left]
  rw [List.drop_drop] at h1
  refine ⟨h1, ?_⟩
  have := congrArg List.length h
  rw [List.length_drop, List.length_append] at this
  omega
theorem form_ok {op : Int} (h : okOp op = true) : ∃ f, formOf op = some f := by
  cases hf : formOf op with
  | some f => exact ⟨f, rfl⟩
  | none => rw [form_no hf] at h; cases h
theorem kids_range {op n : Int} (h : okOp op = true) (hk : leastI op ≤ n ∧ n ≤ (if mostI op < 0 then 2048 else mostI op)) : 0 ≤ n ∧ n ≤ 2048 := by
  have := (least_is h).2
  have := (most_is h).2
  split at hk <;> omega
theorem fine_kids {x : Tw} {own : Bool} (h : fineB x own = true) : okOp x.f0 = true ∧ kidsB x.f0 x.f1 = true ∧ 0 ≤ x.f1 ∧ x.f1 ≤ 2048 := by
  unfold fineB at h
  simp only [Bool.and_eq_true] at h
  obtain ⟨h1, _, _, h2⟩ := h
  refine ⟨h1, h2, ?_⟩
  unfold kidsB at h2
  exact kids_range h1 (of_decide_eq_true h2)
theorem part_fun {x : Tw} {own : Bool} (h : fineB x own = true) (i : Int) (h0 : 0 ≤ i) (hi : i < x.f1) : (fun op => partB ((formOf x.f0).getD ⟨0, 0, 0, 0⟩).pt i x.f1 op) = refPart x.f0 i x.f1 := by
  obtain ⟨h1, h2, _, h4⟩ := fine_kids h
  obtain ⟨f, hf⟩ := form_ok h1
  funext q
  rw [hf]
  exact partB_is hf i x.f1 q h0 hi h2 h4
def deepAs (dp dq : Int) (lv : Nat) (d : Nat) : Prop := dq < 0 ↔ (dp < 0 ∧ (d = 0 ∨ lv + d ≤ 41))
def WalkSays (l : List Tw) (k : Nat) : Prop := ∀ (a lv : Nat) (p : Int → Bool) (dp m dq : Int), a ≤ l.length → lv ≤ a + 1 → 1 ≤ lv → tree_Check.walk l k (a : Int) (lv : Int) p (-1) dp = some (m, -1, dq) →
  ∃ t : T, t.ok p = true ∧ l.drop a = t.flat ++ l.drop (a + t.flat.length) ∧ a + t.flat.length ≤ l.length ∧ m = ((a + t.flat.length : Nat) : Int) ∧ deepAs dp dq lv t.depth
def KidsSay (l : List Tw) (k : Nat) : Prop := ∀ (x : Tw) (a lv i : Nat) (dp m dq : Int), fineB x (ownB x.f3) = true → a ≤ l.length → lv + 1 ≤ a + 1 → 1 ≤ lv → (i : Int) ≤ x.f1 → tree_Check.kids l k x (a : Int) (lv : Int) (i : Int) (-1) dp = some (m, -1, dq) →
  ∃ ts : Ts, ts.ok x (i : Int) = true ∧ x.f1 = (i : Int) + (ts.len : Int) ∧ l.drop a = ts.flat ++ l.drop (a + ts.flat.length) ∧ a + ts.flat.length ≤ l.length ∧ m = ((a + ts.flat.length : Nat) : Int) ∧ deepAs dp dq (lv + 1) ts.depth
theorem walk_neg {l : List Tw} : ∀ (k : Nat), (∀ (a lv : Int) (p : Int → Bool) (dp m wr dq : Int), tree_Check.walk l k a lv p (-1) dp = some (m, wr, dq) → wr = -1 ∨ 0 ≤ wr) ∧ (∀ (x : Tw) (a lv i wr0 : Int) (dp m wr dq : Int), (wr0 = -1 ∨ 0 ≤ wr0) → tree_Check.kids l k x a lv i wr0 dp = some (m, wr, dq) → (wr = -1 ∨ 0 ≤ wr) ∧ (0 ≤ wr0 → wr = wr0))
  | 0 => ⟨fun _ _ _ _ _ _ _ h => by simp [tree_Check.walk] at h, fun _ _ _ _ _ _ _ _ _ _ h => by simp [tree_Check.kids] at h⟩
  | k + 1 => by
    obtain ⟨A, B⟩ := walk_neg (l := l) k
    refine ⟨fun a lv p dp m wr dq h => ?_, fun x a lv i wr0 dp m wr dq hw h => ?_⟩
    · rw [tree_Check.walk] at h
      split at h
      · split at h
        · obtain ⟨b, _, h⟩ := Option.bind_eq_some_iff.1 h
          cases b with
          | true =>
            simp only [if_true, Option.some.injEq, Prod.mk.injEq] at h
            omega
          | false =>
            simp only [Bool.false_eq_true, if_false] at h
            exact (B _ _ _ _ _ _ _ _ _ (.inl rfl) h).1
        · cases h
      · simp only [Option.some.injEq, Prod.mk.injEq] at h
        omega
    · rw [tree_Check.kids] at h
      split at h
      · split at h
        · obtain ⟨⟨m1, wr1, dq1⟩, h1, h2⟩ := Option.bind_eq_some_iff.1 h
          have hwr : wr0 = -1 := by omega
          subst hwr
          have h3 := A _ _ _ _ _ _ _ h1
          exact ⟨(B _ _ _ _ _ _ _ _ _ h3 h2).1, fun h => by omega⟩
        · simp only [Option.some.injEq, Prod.mk.injEq] at h
          obtain ⟨_, rfl, _⟩ := h
          exact ⟨hw, fun _ => rfl⟩
      · simp only [Option.some.injEq, Prod.mk.injEq] at h
        obtain ⟨_, rfl, _⟩ := h
        exact ⟨hw, fun _ => rfl⟩
theorem walk_says {l : List Tw} (hl : l.length ≤ 2048) : ∀ k, WalkSays l k ∧ KidsSay l k
  | 0 => ⟨fun _ _ _ _ _ _ _ _ _ h => by simp [tree_Check.walk] at h, fun _ _ _ _ _ _ _ _ _ _ _ _ h => by simp [tree_Check.kids] at h⟩
  | k + 1 => by
    obtain ⟨A, B⟩ := walk_says hl k
    refine ⟨fun a lv p dp m dq ha hlv h1 h => ?_, fun x a lv i dp m dq hf ha hlv h1 hi h => ?_⟩
    · rw [tree_Check.walk] at h
      split at h
      · rename_i hlt
        rw [if_pos (by omega)] at h
        obtain ⟨b, hb, h⟩ := Option.bind_eq_some_iff.1 h
        have hlt2 : a < l.length := by omega
        obtain ⟨hx, _, hd⟩ := rd_tw (List.drop_eq_getElem_cons hlt2)
        rw [hx] at hb h
        generalize l[a] = x at hx hb h
        have eb := Ev.one (tree_Check.bad_mono · x p) hb (bad_is x (ownB x.f3) (own_is x.f3) p)
        subst eb
        cases hp : p x.f0 && fineB x (ownB x.f3) with
        | false =>
          rw [hp] at h
          simp only [Bool.not_false, if_true, Option.some.injEq, Prod.mk.injEq] at h
          omega
        | true =>
          rw [hp] at h
          simp only [Bool.not_true, Bool.false_eq_true, if_false] at h
          rw [w64 (by omega) (by omega)] at h
          rw [Bool.and_eq_true] at hp
          have hk := fine_kids hp.2
          obtain ⟨ts, t1, t2, t3, t4, t5, t6⟩ := B x (a + 1) lv 0 _ m dq hp.2 (by omega) (by omega) h1 (by omega) h
          have e : a + 1 + ts.flat.length = a + (T.node x ts).flat.length := by rw [T.flat, List.length_cons]; omega
          refine ⟨.node x ts, ?_, ?_, ?_, ?_, ?_⟩
          · rw [T.ok, hp.1, hp.2, decide_eq_true (by omega)]
            exact t1
          · rw [← e, T.flat, List.cons_append, ← t3, List.drop_eq_getElem_cons hlt2]
            congr 1
            have := rd_tw (List.drop_eq_getElem_cons hlt2)
            rw [← this.1, hx]
          · omega
          · rw [t5, e]
          · unfold deepAs at t6 ⊢
            rw [t6, T.depth]
            by_cases c1 : (lv : Int) > 40
            · rw [if_pos c1]
              by_cases c2 : dp < 0
              · rw [if_pos c2]; omega
              · rw [if_neg c2]; omega
            · rw [if_neg c1]; omega
      · simp only [Option.some.injEq, Prod.mk.injEq] at h
        omega
    · rw [tree_Check.kids] at h
      split at h
      · rename_i hlt
        rw [if_pos (by omega)] at h
        obtain ⟨⟨m1, wr1, dq1⟩, hq, h⟩ := Option.bind_eq_some_iff.1 h
        dsimp only at h
        have hk := fine_kids hf
        have hwr : wr1 = -1 := by
          rcases (walk_neg k).1 _ _ _ _ _ _ _ hq with h3 | h3
          · exact h3
          · have := ((walk_neg k).2 _ _ _ _ _ _ _ _ _ (.inr h3) h).2 h3
            omega
        subst hwr
        rw [part_fun hf (i : Int) (by omega) hlt, w64 (by omega) (by omega)] at hq
        rw [w64 (by omega) (by omega)] at h
        obtain ⟨t, t1, t2, t3, t4, t5⟩ := A a (lv + 1) _ dp m1 dq1 ha (by omega) (by omega) hq
        subst t4
        obtain ⟨ts, s1, s2, s3, s4, s5, s6⟩ := B x (a + t.flat.length) lv (i + 1) dq1 m dq hf t3 (by omega) h1 (by omega) h
        have e : a + t.flat.length + ts.flat.length = a + (Ts.cons t ts).flat.length := by rw [Ts.flat, List.length_append]; omega
        refine ⟨.cons t ts, ?_, ?_, ?_, ?_, ?_, ?_⟩
        · rw [Ts.ok, t1]
          exact s1
        · rw [s2, Ts.len]; omega
        · rw [t2, s3, ← e, Ts.flat, List.append_assoc]
        · omega
        · rw [s5, e]
        · unfold deepAs at s6 t5 ⊢
          have := T.depth_pos t
          rw [s6, t5, Ts.depth]
          omega
      · rename_i hge
        simp only [Option.some.injEq, Prod.mk.injEq] at h
        obtain ⟨rfl, _, rfl⟩ := h
        refine ⟨.nil, rfl, ?_, ?_, ?_, ?_, ?_⟩
        · rw [Ts.len]; omega
        · rfl
        · rw [Ts.flat, List.length_nil]; omega
        · rw [Ts.flat, List.length_nil]; omega
        · unfold deepAs
          rw [Ts.depth]
          omega
mutual
theorem T.walks {l : List Tw} (hl : l.length ≤ 2048) : (t : T) → (a lv : Nat) → (p : Int → Bool) → (dp : Int) → (r : List Tw) → t.ok p = true → l.drop a = t.flat ++ r → lv ≤ a + 1 → 1 ≤ lv →
    ∃ dq, deepAs dp dq lv t.depth ∧ Ev (fun k => tree_Check.walk l k (a : Int) (lv : Int) p (-1) dp) (((a + t.flat.length : Nat) : Int), -1, dq)
  | .node x ks, a, lv, p, dp, r, hok, h, hlv, h1 => by
    rw [T.flat, List.cons_append] at h
    obtain ⟨hx, hlt, hd⟩ := rd_tw h
    rw [T.ok] at hok
    simp only [Bool.and_eq_true] at hok
    obtain ⟨o1, o2, o3, o4⟩ := hok
    have o3 := of_decide_eq_true o3
    obtain ⟨dq, d1, d2⟩ := Ts.walks hl ks x (a + 1) lv 0 (if (lv : Int) > 40 then (if dp < 0 then (a : Int) else dp) else dp) r o2 (by omega) o4 hd (by omega) h1
    refine ⟨dq, ?_, ?_⟩
    · unfold deepAs at d1 ⊢
      rw [d1, T.depth]
      by_cases c1 : (lv : Int) > 40
      · rw [if_pos c1]
        by_cases c2 : dp < 0
        · rw [if_pos c2]; omega
        · rw [if_neg c2]; omega
      · rw [if_neg c1]; omega
    · refine Ev.step (f := fun k => (tree_Check.bad k x p).bind fun b => if b = true then some ((a : Int), (a : Int), dp) else tree_Check.kids l k x ((a + 1 : Nat) : Int) (lv : Int) 0 (-1) (if (lv : Int) > 40 then (if dp < 0 then (a : Int) else dp) else dp)) (fun k => ?_) (Ev.bind (bad_is x (ownB x.f3) (own_is x.f3) p) ?_)
      · show tree_Check.walk l (k + 1) _ _ _ _ _ = _
        rw [tree_Check.walk, if_pos (by omega), if_pos (by omega), hx, w64 (by omega) (by omega)]
        rfl
      · refine Ev.congr (f := fun k => tree_Check.kids l k x ((a + 1 : Nat) : Int) (lv : Int) 0 (-1) (if (lv : Int) > 40 then (if dp < 0 then (a : Int) else dp) else dp)) (fun k => ?_) ?_
        · rw [o1, o2]
          rfl
        · have e : a + (T.node x ks).flat.length = a + 1 + ks.flat.length := by rw [T.flat, List.length_cons]; omega
          rw [e]
          exact d2
theorem Ts.walks {l : List Tw} (hl : l.length ≤ 2048) : (ts : Ts) → (x : Tw) → (a lv i : Nat) → (dp : Int) → (r : List Tw) → fineB x (ownB x.f3) = true → x.f1 = (i : Int) + (ts.len : Int) → ts.ok x (i : Int) = true → l.drop a = ts.flat ++ r → lv + 1 ≤ a + 1 → 1 ≤ lv →
    ∃ dq, deepAs dp dq (lv + 1) ts.depth ∧ Ev (fun k => tree_Check.kids l k x (a : Int) (lv : Int) (i : Int) (-1) dp) (((a + ts.flat.length : Nat) : Int), -1, dq)
  | .nil, x, a, lv, i, dp, r, hf, hn, hok, h, hlv, h1 => by
    refine ⟨dp, ?_, ?_⟩
    · unfold deepAs
      rw [Ts.depth]
      omega
    · refine Ev.step (f := fun _ => some _) (fun k => ?_) (Ev.now _)
      show tree_Check.kids l (k + 1) _ _ _ _ _ _ = _
      rw [Ts.len] at hn
      rw [tree_Check.kids, if_neg (by omega), Ts.flat, List.length_nil]
      rfl
  | .cons t ts, x, a, lv, i, dp, r, hf, hn, hok, h, hlv, h1 => by
    rw [Ts.len] at hn
    rw [Ts.ok, Bool.and_eq_true] at hok
    rw [Ts.flat, List.append_assoc] at h
    have hk := fine_kids hf
    obtain ⟨hd, _⟩ := drop_app h
    obtain ⟨d1, e1, w1⟩ := T.walks hl t a (lv + 1) (refPart x.f0 (i : Int) x.f1) dp (ts.flat ++ r) hok.1 h (by omega) (by omega)
    have := T.flat_pos t
    have ha : a < l.length := by
      rcases Nat.lt_or_ge a l.length with h2 | h2
      · exact h2
      · rw [List.drop_eq_nil_of_le h2] at h
        have := congrArg List.length h
        rw [List.length_append, List.length_nil] at this
        omega
    obtain ⟨d2, e2, w2⟩ := Ts.walks hl ts x (a + t.flat.length) lv (i + 1) d1 r hf (by omega) hok.2 hd (by omega) h1
    refine ⟨d2, ?_, ?_⟩
    · unfold deepAs at e1 e2 ⊢
      have := T.depth_pos t
      rw [e2, e1, Ts.depth]
      omega
    · have e : a + (Ts.cons t ts).flat.length = a + t.flat.length + ts.flat.length := by rw [Ts.flat, List.length_append]; omega
      rw [e]
      refine Ev.step (f := fun k => (tree_Check.walk l k (a : Int) ((lv + 1 : Nat) : Int) (refPart x.f0 (i : Int) x.f1) (-1) dp).bind fun q => tree_Check.kids l k x q.1 (lv : Int) ((i + 1 : Nat) : Int) q.2.1 q.2.2) (fun k => ?_) (Ev.bind w1 w2)
      show tree_Check.kids l (k + 1) _ _ _ _ _ _ = _
      rw [tree_Check.kids, if_pos (by omega), if_pos (by decide), part_fun hf (i : Int) (by omega) (by omega), w64 (by omega) (by omega), w64 (by omega) (by omega)]
      rfl
end
def anyOp : Int → Bool := fun _ => true
theorem check_tree {l : List Tw} (h : Ev (fun k => tree_Check.f k l) (0, 0)) : ∃ t : T, l = t.flat ∧ t.ok anyOp = true ∧ t.depth ≤ 40 ∧ l.length ≤ 2048 := by
  obtain ⟨k, h⟩ := Ev.rounds h
  rw [tree_Check.f] at h
  split at h
  · simp at h
  rename_i hl
  obtain ⟨⟨m, wr, dq⟩, hw, h⟩ := Option.bind_eq_some_iff.1 h
  dsimp only at h
  have hn := (walk_neg k).1 _ _ _ _ _ _ _ hw
  split at h
  · simp at h
  have hwr : wr = -1 := by omega
  subst hwr
  split at h
  · simp at h
  split at h
  · simp at h
  obtain ⟨t, t1, t2, t3, t4, t5⟩ := (walk_says (show l.length ≤ 2048 by omega) k).1 0 1 _ _ _ _ (by omega) (by omega) (by omega) hw
  refine ⟨t, ?_, t1, ?_, by omega⟩
  · rw [List.drop_zero, List.drop_of_length_le (by omega), List.append_nil] at t2
    exact t2
  · unfold deepAs at t5
    have := T.depth_pos t
    omega
theorem tree_check {t : T} (h : t.ok anyOp = true) (hl : t.flat.length ≤ 2048) (hd : t.depth ≤ 40) : Ev (fun k => tree_Check.f k t.flat) (0, 0) := by
  obtain ⟨dq, d1, d2⟩ := T.walks hl t 0 1 anyOp (-1) [] h (by simp) (by omega) (by omega)
  unfold deepAs at d1
  refine Ev.congr (f := fun k => (tree_Check.walk t.flat k 0 1 anyOp (-1) (-1)).bind fun q => if 0 ≤ q.2.1 then some (q.2.1, 3) else if q.1 < (t.flat.length : Int) then some (q.1, 3) else if 0 ≤ q.2.2 then some (q.2.2, 2) else some (0, 0)) (fun k => ?_) (Ev.bind d2 (Ev.congr (f := fun _ => some _) (fun k => ?_) (Ev.now _)))
  · show tree_Check.f k _ = _
    rw [tree_Check.f, if_neg (by omega)]
    rfl
  · dsimp only
    rw [if_neg (by decide), if_neg (by omega), if_neg (by omega)]
end Go.Proofs.Ytlbchdalimngjaa.Tree
namespace Go.Proofs.Ytlbchdalimngjaa.Tree
open Go.RowKit Go.Proofs.YtlbchdalimngjaaW.PrintWords Go.Proofs.YtlbchdalimngjaaW.PrintLast Go.Proofs.YtlbchdalimngjaaW.PrintMore Go.Proofs.Ytlbchdalimngjaa.P Go.Proofs.Ytlbchdalimngjaa.Lex
set_option linter.unusedVariables false
set_option linter.unusedSimpArgs false
def Ts.list : Ts → List (List Tw)
  | .nil => []
  | .cons t ts => t.flat :: ts.list
theorem Ts.list_flat : (ts : Ts) → ts.list.flatten = ts.flat
  | .nil => rfl
  | .cons t ts => by rw [Ts.list, List.flatten_cons, Ts.list_flat ts, Ts.flat]
theorem Ts.list_len : (ts : Ts) → ts.list.length = ts.len
  | .nil => rfl
  | .cons t ts => by rw [Ts.list, List.length_cons, Ts.list_len ts, Ts.len]
mutual
theorem T.ends {l : List Tw} (hl : l.length ≤ 2048) : (t : T) → (a : Nat) → (o : Int) → (p : Int → Bool) → (s : List Tw) → (r : Int) → t.ok p = true → l.drop a = t.flat ++ s → 1 ≤ o → o ≤ 3000 * (a + 1) → Ev (fun k => tree_ends.l0 k l ((a + t.flat.length : Nat) : Int) (o - 1)) r → Ev (fun k => tree_ends.l0 k l (a : Int) o) r
  | .node x ks, a, o, p, s, r, hok, h, h1, ho, hr => by
    rw [T.flat, List.cons_append] at h
    obtain ⟨hx, hlt, hd⟩ := rd_tw h
    rw [T.ok] at hok
    simp only [Bool.and_eq_true] at hok
    obtain ⟨o1, o2, o3, o4⟩ := hok
    have o3 := of_decide_eq_true o3
    have hk := fine_kids o2
    have e : a + (T.node x ks).flat.length = a + 1 + ks.flat.length := by rw [T.flat, List.length_cons]; omega
    rw [e] at hr
    have := Ts.ends hl ks (a + 1) (o - 1) x 0 s r o4 hd (by omega) (by omega) hr
    refine Ev.step (fun k => ?_) this
    show tree_ends.l0 (k + 1) _ _ _ = _
    have w1 : wrap64 (o + wrap64 (x.f1 - 1)) = o - 1 + (ks.len : Int) := by unfold wrap64; omega
    rw [tree_ends.l0, if_pos (by omega), if_pos (by omega), if_pos (by omega), hx, w64 (by omega) (by omega), w1]
    rfl
theorem Ts.ends {l : List Tw} (hl : l.length ≤ 2048) : (ts : Ts) → (a : Nat) → (o : Int) → (x : Tw) → (i : Int) → (s : List Tw) → (r : Int) → ts.ok x i = true → l.drop a = ts.flat ++ s → 0 ≤ o → o + ts.len ≤ 3000 * (a + 1) → Ev (fun k => tree_ends.l0 k l ((a + ts.flat.length : Nat) : Int) o) r → Ev (fun k => tree_ends.l0 k l (a : Int) (o + (ts.len : Int))) r
  | .nil, a, o, x, i, s, r, hok, h, h0, ho, hr => by
    rw [Ts.len]
    have e : o + ((0 : Nat) : Int) = o := by omega
    rw [e]
    exact hr
  | .cons t ts, a, o, x, i, s, r, hok, h, h0, ho, hr => by
    rw [Ts.ok, Bool.and_eq_true] at hok
    rw [Ts.flat, List.append_assoc] at h
    rw [Ts.len] at ho ⊢
    obtain ⟨hd, _⟩ := drop_app h
    have tp := T.flat_pos t
    have e : a + (Ts.cons t ts).flat.length = a + t.flat.length + ts.flat.length := by rw [Ts.flat, List.length_append]; omega
    rw [e] at hr
    have h2 := Ts.ends hl ts (a + t.flat.length) o x (i + 1) s r hok.2 hd h0 (by omega) hr
    refine T.ends hl t a _ _ (ts.flat ++ s) r hok.1 h (by omega) (by omega) ?_
    have e2 : o + ((ts.len + 1 : Nat) : Int) - 1 = o + (ts.len : Int) := by omega
    rw [e2]
    exact h2
end
theorem ends_is {l : List Tw} (hl : l.length ≤ 2048) {t : T} {p : Int → Bool} {a : Nat} {s : List Tw} (hok : t.ok p = true) (h : l.drop a = t.flat ++ s) : Ev (fun k => tree_ends.f k l (a : Int)) ((a + t.flat.length : Nat) : Int) := by
  refine T.ends hl t a 1 p s _ hok h (by omega) (by omega) (Ev.step (f := fun _ => some _) (fun k => ?_) (Ev.now _))
  show tree_ends.l0 (k + 1) _ _ _ = _
  rw [tree_ends.l0, if_neg (by omega)]
theorem parts_go {l : List Tw} (hl : l.length ≤ 2048) : (ts : Ts) → (a : Nat) → (x : Tw) → (i : Int) → (out : List (List Tw)) → ts.ok x i = true → l.drop a = ts.flat → a ≤ l.length → out.length + ts.len ≤ 3000 → Ev (fun k => tree_Parts.l0 k l out (a : Int)) (out ++ ts.list, 0)
  | .nil, a, x, i, out, hok, h, ha, hn => by
    refine Ev.step (f := fun _ => some _) (fun k => ?_) (Ev.now _)
    have := List.drop_eq_nil_iff.1 (show l.drop a = [] from h)
    show tree_Parts.l0 (k + 1) _ _ _ = _
    rw [tree_Parts.l0, if_neg (by omega), Ts.list, List.append_nil]
  | .cons t ts, a, x, i, out, hok, h, ha, hn => by
    rw [Ts.ok, Bool.and_eq_true] at hok
    rw [Ts.flat] at h
    rw [Ts.len] at hn
    obtain ⟨hd, _⟩ := drop_app h
    have tp := T.flat_pos t
    have hlen := congrArg List.length h
    rw [List.length_drop, List.length_append] at hlen
    have he := ends_is hl hok.1 h
    have ih := parts_go hl ts (a + t.flat.length) x (i + 1) (out ++ [t.flat]) hok.2 hd (by omega) (by rw [List.length_append, List.length_singleton]; omega)
    have cut : (l.take (a + t.flat.length)).drop a = t.flat := by
      rw [List.drop_take, h]
      have : a + t.flat.length - a = t.flat.length := by omega
      rw [this, List.take_left]
    rw [Ts.list]
    have e : out ++ t.flat :: ts.list = out ++ [t.flat] ++ ts.list := by simp
    rw [e]
    refine Ev.step (f := fun k => (tree_ends.f k l (a : Int)).bind fun q => if 0 ≤ (a : Int) then (if (a : Int) ≤ q then (if q ≤ (l.length : Int) then ((some ((l.take q.toNat).drop (a : Int).toNat)).bind fun y => (if ([] : List Tw).length + y.length < 3518437208883 then (if out.length < 5864062014805 then (tree_Parts.l0 k l (out ++ [(([] : List Tw) ++ y)]) q) else (none)) else (none))) else (none)) else (none)) else (none)) (fun k => ?_) (Ev.bind he (Ev.congr (fun k => ?_) ih))
    · show tree_Parts.l0 (k + 1) _ _ _ = _
      rw [tree_Parts.l0, if_pos (by omega)]
    · rw [if_pos (by omega), if_pos (by omega), if_pos (by omega), Int.toNat_natCast, Int.toNat_natCast, cut]
      simp only [Option.bind_some, List.length_nil, List.nil_append]
      rw [if_pos (by omega), if_pos (by omega)]
theorem parts_is {x : Tw} {ks : Ts} (h : (T.node x ks).ok anyOp = true) (hl : (T.node x ks).flat.length ≤ 2048) (hd : (T.node x ks).depth ≤ 40) : Ev (fun k => tree_Parts.f k (T.node x ks).flat) (ks.list, 0) := by
  have hc := tree_check h hl hd
  rw [T.ok] at h
  simp only [Bool.and_eq_true] at h
  obtain ⟨o1, o2, o3, o4⟩ := h
  have hk := fine_kids o2
  have o3 := of_decide_eq_true o3
  refine Ev.bind (f := fun k q => if q.2 = 0 then tree_Parts.l0 k (T.node x ks).flat ([] : List (List Tw)) 1 else some (([] : List (List Tw)), q.2)) hc ?_
  refine Ev.congr (fun k => if_pos rfl) ?_
  have := parts_go hl ks 1 x 0 [] o4 rfl (by rw [T.flat, List.length_cons]; omega) (by simp only [List.length_nil]; omega)
  exact this
def dec : List Int → List Int
  | [] => []
  | [c] => [c - 1]
  | c :: d :: s => c :: dec (d :: s)
theorem dec_snoc : (s : List Int) → (c : Int) → dec (s ++ [c]) = s ++ [c - 1]
  | [], c => rfl
  | [d], c => rfl
  | d :: e :: s, c => by
    have := dec_snoc (e :: s) c
    simp only [List.cons_append] at this ⊢
    rw [dec, this]
theorem rd_snoc (s : List Int) (c : Int) (hs : s.length ≤ 100000) : rd (s ++ [c]) (wrap64 (((s ++ [c]).length : Int) - 1)) = c ∧ wrap64 (((s ++ [c]).length : Int) - 1) = (s.length : Int) ∧ (0 : Int) < ((s ++ [c]).length : Int) := by
  have e : wrap64 (((s ++ [c]).length : Int) - 1) = (s.length : Int) := by
    rw [List.length_append, List.length_singleton]
    unfold wrap64
    omega
  refine ⟨?_, e, by rw [List.length_append, List.length_singleton]; omega⟩
  rw [e]
  unfold rd
  rw [Int.toNat_natCast, List.getD_eq_getElem?_getD, List.getElem?_append_right (Nat.le_refl _)]
  simp
theorem dep_pop {l : List Tw} {n : Int} (s : List Int) (most i : Int) (r : Int) (hs : s.length ≤ 3000) (hb : ∀ c ∈ s, 0 ≤ c ∧ c ≤ 3000) (hr : Ev (fun k => tree_depth.l1 k most (dec s) l n i) r) : Ev (fun k => tree_depth.l1 k most (s ++ [0]) l n i) r := by
  obtain ⟨e1, e2, e3⟩ := rd_snoc s 0 (by omega)
  refine Ev.step (f := fun k => tree_depth.j2 k most (s ++ [0]) l n i true) (fun k => ?_) (Ev.step (fun k => ?_) hr)
  · show tree_depth.l1 (k + 1) _ _ _ _ _ = _
    rw [tree_depth.l1, if_pos (by omega), if_pos (by omega), if_pos (by rw [List.length_append, List.length_singleton] at e2 ⊢; omega), e1]
    rfl
  · show tree_depth.j2 (k + 1) _ _ _ _ _ _ = _
    have tk : (s ++ [(0 : Int)]).take (wrap64 (((s ++ [(0 : Int)]).length : Int) - 1)).toNat = s := by rw [e2, Int.toNat_natCast, List.take_left]
    rw [tree_depth.j2, if_pos rfl, if_pos (by omega), if_pos (by rw [List.length_append, List.length_singleton] at e2 ⊢; omega), tk]
    simp only [Option.bind_some]
    rcases List.eq_nil_or_concat s with h | ⟨s', c, h⟩
    · subst h
      rw [if_neg (by simp)]
      rfl
    · rw [List.concat_eq_append] at h
      subst h
      obtain ⟨f1, f2, f3⟩ := rd_snoc s' c (by rw [List.length_append] at hs; omega)
      have hc := hb c (by simp)
      have wc : wrap64 (c - 1) = c - 1 := by unfold wrap64; omega
      rw [if_pos (by omega), if_pos (by omega), if_pos (by rw [List.length_append, List.length_singleton] at f2 ⊢; omega), f1, wc, f2, Int.toNat_natCast, dec_snoc, List.set_append_right _ _ (Nat.le_refl _)]
      simp
theorem dep_next {l : List Tw} {n : Int} (s : List Int) (most : Int) (i : Nat) (r : Int) (hs : s.length ≤ 3000) (hi : i ≤ 3000) (hc : s = [] ∨ ∃ s' c, s = s' ++ [c] ∧ c ≠ 0) (hr : Ev (fun k => tree_depth.l0 k most s l n ((i + 1 : Nat) : Int)) r) : Ev (fun k => tree_depth.l1 k most s l n (i : Int)) r := by
  refine Ev.step (f := fun k => tree_depth.j2 k most s l n (i : Int) false) (fun k => ?_) (Ev.step (fun k => ?_) hr)
  · show tree_depth.l1 (k + 1) _ _ _ _ _ = _
    rcases hc with rfl | ⟨s', c, rfl, hc⟩
    · rw [tree_depth.l1, if_neg (by simp)]
    · obtain ⟨f1, f2, f3⟩ := rd_snoc s' c (by rw [List.length_append] at hs; omega)
      rw [tree_depth.l1, if_pos (by omega), if_pos (by omega), if_pos (by rw [List.length_append, List.length_singleton] at f2 ⊢; omega), f1, beq_eq_false_iff_ne.2 hc]
  · show tree_depth.j2 (k + 1) _ _ _ _ _ _ = _
    rw [tree_depth.j2, if_neg (by decide), w64 (by omega) (by omega)]
    rfl
mutual
theorem T.dep {l : List Tw} (hl : l.length ≤ 2048) : (t : T) → (a : Nat) → (most : Int) → (st : List Int) → (p : Int → Bool) → (s : List Tw) → (r : Int) → t.ok p = true → l.drop a = t.flat ++ s → st.length ≤ a → (∀ c ∈ st, 0 ≤ c ∧ c ≤ 3000) → 0 ≤ most →
    Ev (fun k => tree_depth.l1 k (max most ((st.length + t.depth : Nat) : Int)) (dec st) l (l.length : Int) ((a + t.flat.length - 1 : Nat) : Int)) r → Ev (fun k => tree_depth.l0 k most st l (l.length : Int) (a : Int)) r
  | .node x ks, a, most, st, p, s, r, hok, h, hst, hb, hm, hr => by
    rw [T.flat, List.cons_append] at h
    obtain ⟨hx, hlt, hd⟩ := rd_tw h
    rw [T.ok] at hok
    simp only [Bool.and_eq_true] at hok
    obtain ⟨o1, o2, o3, o4⟩ := hok
    have o3 := of_decide_eq_true o3
    have hk := fine_kids o2
    have wm : mx most (wrap64 ((st.length : Int) + 1)) = max most ((st.length + 1 : Nat) : Int) := by
      rw [w64 (by omega) (by omega)]
      unfold mx
      omega
    refine Ev.step (f := fun k => tree_depth.l1 k (max most ((st.length + 1 : Nat) : Int)) (st ++ [(ks.len : Int)]) l (l.length : Int) (a : Int)) (fun k => ?_) ?_
    · show tree_depth.l0 (k + 1) _ _ _ _ _ = _
      rw [tree_depth.l0, if_pos (by omega), if_pos (by omega), if_pos (by omega), if_pos (by omega), hx, wm, o3]
    · by_cases h0 : ks.len = 0
      · have hks : ks = .nil := by
          cases ks with
          | nil => rfl
          | cons t ts => rw [Ts.len] at h0; omega
        rw [h0]
        refine dep_pop st _ _ r (by omega) hb ?_
        have e : a + (T.node x ks).flat.length - 1 = a := by rw [hks, T.flat, Ts.flat, List.length_singleton]; omega
        have e2 : (T.node x ks).depth = 1 := by rw [hks]; rfl
        rw [e, e2] at hr
        exact hr
      · have kp := Ts.len_flat ks
        have e : a + (T.node x ks).flat.length - 1 = a + 1 + ks.flat.length - 1 := by rw [T.flat, List.length_cons]; omega
        have e2 : max (max most ((st.length + 1 : Nat) : Int)) ((st.length + 1 + ks.depth : Nat) : Int) = max most ((st.length + (T.node x ks).depth : Nat) : Int) := by rw [T.depth]; omega
        refine dep_next _ _ a r (by rw [List.length_append, List.length_singleton]; omega) (by omega) (.inr ⟨st, _, rfl, by omega⟩) ?_
        refine Ts.dep hl ks (a + 1) _ st x 0 s r (by omega) o4 hd (by omega) (by omega) hb (by omega) ?_
        rw [e2, ← e]
        exact hr
theorem Ts.dep {l : List Tw} (hl : l.length ≤ 2048) : (ts : Ts) → (a : Nat) → (most : Int) → (st : List Int) → (x : Tw) → (i : Int) → (s : List Tw) → (r : Int) → 1 ≤ ts.len → ts.ok x i = true → l.drop a = ts.flat ++ s → st.length + 1 ≤ a → ts.len ≤ 2900 → (∀ c ∈ st, 0 ≤ c ∧ c ≤ 3000) → 0 ≤ most →
    Ev (fun k => tree_depth.l1 k (max most ((st.length + 1 + ts.depth : Nat) : Int)) (dec st) l (l.length : Int) ((a + ts.flat.length - 1 : Nat) : Int)) r → Ev (fun k => tree_depth.l0 k most (st ++ [(ts.len : Int)]) l (l.length : Int) (a : Int)) r
  | .nil, a, most, st, x, i, s, r, h1, hok, h, hst, hn, hb, hm, hr => by rw [Ts.len] at h1; omega
  | .cons t ts, a, most, st, x, i, s, r, h1, hok, h, hst, hn, hb, hm, hr => by
    rw [Ts.ok, Bool.and_eq_true] at hok
    rw [Ts.flat, List.append_assoc] at h
    rw [Ts.len] at hn ⊢
    have hlen := congrArg List.length h
    rw [List.length_drop, List.length_append] at hlen
    obtain ⟨hd, _⟩ := drop_app h
    have tp := T.flat_pos t
    refine T.dep hl t a most _ _ _ r hok.1 h (by rw [List.length_append, List.length_singleton]; omega) (by intro c hc; rcases List.mem_append.1 hc with hc | hc; exact hb c hc; rw [List.mem_singleton] at hc; omega) hm ?_
    rw [dec_snoc]
    have e0 : ((ts.len + 1 : Nat) : Int) - 1 = (ts.len : Int) := by omega
    rw [e0]
    by_cases h0 : ts.len = 0
    · have hts : ts = .nil := by
        cases ts with
        | nil => rfl
        | cons t ts => rw [Ts.len] at h0; omega
      rw [h0]
      refine dep_pop st _ _ r (by omega) hb ?_
      have e : a + (Ts.cons t ts).flat.length - 1 = a + t.flat.length - 1 := by rw [hts, Ts.flat, Ts.flat, List.append_nil]
      have e2 : ((st.length + 1 + (Ts.cons t ts).depth : Nat) : Int) = (((st ++ [((ts.len + 1 : Nat) : Int)]).length + t.depth : Nat) : Int) := by rw [hts, Ts.depth, Ts.depth, List.length_append, List.length_singleton]; omega
      rw [e, e2, h0] at hr
      exact hr
    · refine dep_next _ _ (a + t.flat.length - 1) r (by rw [List.length_append, List.length_singleton]; omega) (by omega) (.inr ⟨st, _, rfl, by omega⟩) ?_
      have e1 : a + t.flat.length - 1 + 1 = a + t.flat.length := by omega
      rw [e1]
      refine Ts.dep hl ts (a + t.flat.length) _ st x (i + 1) s r (by omega) hok.2 hd (by omega) (by omega) hb (by omega) ?_
      have kp := Ts.len_flat ts
      have e : a + (Ts.cons t ts).flat.length - 1 = a + t.flat.length + ts.flat.length - 1 := by rw [Ts.flat, List.length_append]; omega
      have e2 : max most ((st.length + 1 + (Ts.cons t ts).depth : Nat) : Int) = max (max most (((st ++ [((ts.len + 1 : Nat) : Int)]).length + t.depth : Nat) : Int)) ((st.length + 1 + ts.depth : Nat) : Int) := by rw [List.length_append, List.length_singleton, Ts.depth]; omega
      rw [e, e2] at hr
      exact hr
end
theorem depth_is {t : T} (h : t.ok anyOp = true) (hl : t.flat.length ≤ 2048) : Ev (fun k => tree_depth.f k t.flat) (t.depth : Int) := by
  have tp := T.flat_pos t
  refine T.dep hl t 0 0 [] anyOp [] _ h (by simp) (by simp) (by simp) (by omega) ?_
  refine dep_next _ _ _ _ (by simp [dec]) (by omega) (.inl rfl) (Ev.step (f := fun _ => some _) (fun k => ?_) (Ev.now _))
  show tree_depth.l0 (k + 1) _ _ _ _ _ = _
  rw [tree_depth.l0, if_neg (by omega)]
  congr 1
  simp only [List.length_nil, Nat.zero_add]
  omega
theorem Depth_is {t : T} (h : t.ok anyOp = true) (hl : t.flat.length ≤ 2048) (hd : t.depth ≤ 40) : Ev (fun k => tree_Depth.f k t.flat) (t.depth : Int) := by
  refine Ev.bind (f := fun k q => if q.2 = 0 then ((tree_depth.f k t.flat).bind fun d => some d) else some 0) (tree_check h hl hd) (Ev.congr (fun k => if_pos rfl) (Ev.bind (depth_is h hl) (Ev.now _)))
theorem ok_any {t : T} {p : Int → Bool} (h : t.ok p = true) : t.ok anyOp = true := by
  cases t
  rw [T.ok] at h ⊢
  simp only [Bool.and_eq_true] at h ⊢
  exact ⟨rfl, h.2⟩
theorem check_zero {l : List Tw} {c : Int × Int} (h : Ev (fun k => tree_Check.f k l) c) (h0 : c.2 = 0) : c = (0, 0) := by
  obtain ⟨k, h⟩ := Ev.rounds h
  rw [tree_Check.f] at h
  split at h
  · simp only [Option.some.injEq] at h
    subst h
    cases h0
  · obtain ⟨q, _, h⟩ := Option.bind_eq_some_iff.1 h
    repeat' split at h
    all_goals
      simp only [Option.some.injEq] at h
      subst h
      first | rfl | cases h0
end Go.Proofs.Ytlbchdalimngjaa.Tree
namespace Go.Proofs.Ytlbchdalimngjaa.Tree
open Go.RowKit Go.Proofs.YtlbchdalimngjaaW.PrintWords Go.Proofs.YtlbchdalimngjaaW.PrintLast Go.Proofs.Ytlbchdalimngjaa.P Go.Proofs.Ytlbchdalimngjaa.Lex
set_option linter.unusedVariables false
set_option linter.unusedSimpArgs false
def tot : List (List S43) → Nat
  | [] => 0
  | p :: ps => p.length + tot ps
theorem rd_part {l : List (List S43)} {j : Nat} {p : List S43} {ps : List (List S43)} (h : l.drop j = p :: ps) : rd_L6 l (j : Int) = p ∧ j < l.length ∧ l.drop (j + 1) = ps := by
  have hlt : j < l.length := by
    rcases Nat.lt_or_ge j l.length with h1 | h1
    · exact h1
    · rw [List.drop_eq_nil_of_le h1] at h; cases h
  rw [List.drop_eq_getElem_cons hlt] at h
  injection h with h1 h2
  refine ⟨?_, hlt, h2⟩
  unfold rd_L6
  rw [List.getD_eq_getElem?_getD, Int.toNat_natCast, List.getElem?_eq_getElem hlt, h1]
  rfl
theorem parts_end {l : List (List S43)} {j : Nat} (h : l.drop j = []) : ¬ (j : Int) < (l.length : Int) := by
  have := List.drop_eq_nil_iff.1 h
  omega
section
variable (f0 f1 f2 : Int) (f3 : ByteArray) (l1 : List (List S43))
theorem make_join (hl : l1.length ≤ 6000) (r : List S43 × Int) : ∀ (ps : List (List S43)) (j : Nat) (x : List S43), l1.drop j = ps → x.length + tot ps ≤ 9000 →
    Ev (fun k => (tree_Check.f k (x ++ ps.flatten)).bind fun q => if q.2 = 0 then some (x ++ ps.flatten, 0) else some ([], q.2)) r → Ev (fun k => tree_Make.l1 k x l1 (l1.length : Int) (j : Int)) r
  | [], j, x, h, ht, hr => by
    rw [List.flatten_nil, List.append_nil] at hr
    refine Ev.step (fun k => ?_) hr
    show tree_Make.l1 (k + 1) _ _ _ _ = _
    rw [tree_Make.l1, if_neg (parts_end h)]
  | p :: ps, j, x, h, ht, hr => by
    obtain ⟨hr1, hlt, hd⟩ := rd_part h
    have htp : tot (p :: ps) = p.length + tot ps := rfl
    have wj : wrap64 ((j : Int) + 1) = ((j + 1 : Nat) : Int) := w64 (by omega) (by omega)
    rw [List.flatten_cons, ← List.append_assoc] at hr
    refine Ev.step (fun k => ?_) (make_join hl r ps (j + 1) (x ++ p) hd (by rw [List.length_append]; omega) hr)
    show tree_Make.l1 (k + 1) _ _ _ _ = _
    rw [tree_Make.l1, if_pos (by omega), if_pos (by omega), if_pos (by omega), hr1, if_pos (by omega), wj]
theorem flat_len : ∀ l : List (List S43), l.flatten.length = tot l
  | [] => rfl
  | p :: ps => by rw [List.flatten_cons, List.length_append, flat_len ps]; rfl
end
end Go.Proofs.Ytlbchdalimngjaa.Tree
namespace Go.Proofs.Ytlbchdalimngjaa.Tree
open Go.RowKit Go.Proofs.YtlbchdalimngjaaW.PrintWords Go.Proofs.YtlbchdalimngjaaW.PrintLast Go.Proofs.YtlbchdalimngjaaW.PrintMore Go.Proofs.Ytlbchdalimngjaa.P Go.Proofs.Ytlbchdalimngjaa.Lex
set_option linter.unusedVariables false
set_option linter.unusedSimpArgs false
theorem treeWakes : Ev (fun k => prompterlaw08_wakes.f k) true := Ev.of prompterlaw08_wakes.mono (k := 60) (by kernel_rfl)
theorem alike_go8 (l : List Tw) (hl : l.length ≤ 900000) : ∀ (n i : Nat), i + n = l.length → Ev (fun k => prompterref08_Alike.l0 k l l (i : Int)) true
  | 0, i, h => Ev.step (f := fun _ => some true) (fun k => by
      show prompterref08_Alike.l0 (k + 1) l l (i : Int) = _
      rw [prompterref08_Alike.l0, if_neg (by omega)]) (Ev.now _)
  | n + 1, i, h => by
    refine Ev.step (fun k => ?_) (alike_go8 l hl n (i + 1) (by omega))
    show prompterref08_Alike.l0 (k + 1) l l (i : Int) = _
    rw [prompterref08_Alike.l0, if_pos (by omega), if_pos (by omega), if_pos (by omega), w64 (by omega) (by omega), if_neg (by simp)]
    rfl
theorem alike8 (l : List Tw) (hl : l.length ≤ 900000) : Ev (fun k => prompterref08_Alike.f k l l) true := by
  refine Ev.congr (fun k => ?_) (alike_go8 l hl l.length 0 (by omega))
  show prompterref08_Alike.f k l l = _
  rw [prompterref08_Alike.f, if_pos rfl]
  rfl
theorem list_drop {L : List (List Tw)} {j : Nat} {p : List Tw} {ps : List (List Tw)} (h : L.drop j = p :: ps) : rd_L6 L (j : Int) = p ∧ j < L.length ∧ L.drop (j + 1) = ps := rd_part h
theorem make_go {L : List (List Tw)} (f0 f1 f2 : Int) (f3 : ByteArray) (r : List Tw × Int) (hL : L.length ≤ 2048) (fin : Ev (fun k => tree_Make.l1 k [⟨f0, (L.length : Int), f2, f3⟩] L (L.length : Int) 0) r) :
    (ts : Ts) → (j : Nat) → (x6 : Int) → (x : Tw) → (i : Int) → L.drop j = ts.list → ts.ok x i = true → x6 + ts.flat.length ≤ 2048 → 1 ≤ x6 → ts.depth ≤ 40 → Ev (fun k => tree_Make.l0 k L x6 L (L.length : Int) (j : Int) f0 f1 f2 f3) r
  | .nil, j, x6, x, i, h, hok, h6, h1, hd => by
    refine Ev.step (fun k => ?_) fin
    show tree_Make.l0 (k + 1) _ _ _ _ _ _ _ _ _ = _
    rw [tree_Make.l0, if_neg (parts_end h), if_neg (by omega)]
  | .cons t ts, j, x6, x, i, h, hok, h6, h1, hd => by
    rw [Ts.list] at h
    obtain ⟨hr, hlt, hdr⟩ := list_drop h
    rw [Ts.ok, Bool.and_eq_true] at hok
    rw [Ts.flat, List.length_append] at h6
    rw [Ts.depth] at hd
    have ih := make_go f0 f1 f2 f3 r hL fin ts (j + 1) (x6 + t.flat.length) x (i + 1) hdr hok.2 (by omega) (by omega) (by omega)
    have wj : wrap64 ((j : Int) + 1) = ((j + 1 : Nat) : Int) := w64 (by omega) (by omega)
    have ws : wrap64 (x6 + (t.flat.length : Int)) = x6 + (t.flat.length : Int) := w64b (by omega) (by omega)
    refine Ev.step (f := fun k => (tree_Check.f k t.flat).bind fun q => if q.2 = 0 then (if x6 ≤ 2048 then tree_Make.l0 k L (wrap64 (x6 + (t.flat.length : Int))) L (L.length : Int) ((j + 1 : Nat) : Int) f0 f1 f2 f3 else tree_Make.l0 k L x6 L (L.length : Int) ((j + 1 : Nat) : Int) f0 f1 f2 f3) else some ([], q.2)) (fun k => ?_) (Ev.bind (tree_check (ok_any hok.1) (by omega) (by omega)) (Ev.congr (fun k => (if_pos rfl).trans ((if_pos (by omega)).trans ?_)) ih))
    · show tree_Make.l0 (k + 1) _ _ _ _ _ _ _ _ _ = _
      rw [tree_Make.l0, if_pos (by omega), if_pos (by omega), if_pos (by omega), hr, wj]
    · rw [ws]
theorem make_right {x : Tw} {ks : Ts} (f1 : Int) (h : (T.node x ks).ok anyOp = true) (hl : (T.node x ks).flat.length ≤ 2048) (hd : (T.node x ks).depth ≤ 40) : Ev (fun k => tree_Make.f k x.f0 f1 x.f2 x.f3 ks.list) ((T.node x ks).flat, 0) := by
  have hc := tree_check h hl hd
  rw [T.ok] at h
  simp only [Bool.and_eq_true] at h
  obtain ⟨o1, o2, o3, o4⟩ := h
  have o3 := of_decide_eq_true o3
  have hk := fine_kids o2
  have hlen := Ts.list_len ks
  rw [T.flat, List.length_cons] at hl
  rw [T.depth] at hd
  refine make_go x.f0 f1 x.f2 x.f3 _ (by omega) ?_ ks 0 1 x 0 rfl o4 (by omega) (by omega) (by omega)
  have ex : (⟨x.f0, (ks.list.length : Int), x.f2, x.f3⟩ : Tw) = x := by
    rw [hlen, ← o3]
  rw [ex]
  have hfl : [x] ++ ks.list.flatten = (T.node x ks).flat := by rw [Ts.list_flat, T.flat]; rfl
  have htot : tot ks.list = ks.flat.length := by rw [← flat_len, Ts.list_flat]
  refine make_join ks.list (by omega) _ ks.list 0 [x] rfl (by rw [htot, List.length_singleton]; omega) ?_
  rw [hfl]
  exact Ev.bind (f := fun k q => if q.2 = 0 then some ((T.node x ks).flat, (0 : Int)) else some ([], q.2)) hc (Ev.congr (f := fun _ => some _) (fun k => if_pos rfl) (Ev.now _))
end Go.Proofs.Ytlbchdalimngjaa.Tree
namespace Go.Proofs.Ytlbchdalimngjaa.Pure
open Go.RowKit Go.Proofs.Ytlbchdalimngjaa.P Go.Proofs.YtlbchdalimngjaaW.PrintWords Go.Proofs.YtlbchdalimngjaaW.PrintLast Go.Proofs.YtlbchdalimngjaaW.PrintMore Go.Proofs.Ytlbchdalimngjaa.Lex Go.Proofs.Ytlbchdalimngjaa.Tree
set_option linter.unusedVariables false
set_option linter.unusedSimpArgs false
theorem back_go {x : Tw} {ks : Ts} (h : (T.node x ks).ok anyOp = true) (hl : (T.node x ks).flat.length ≤ 2048) (hd : (T.node x ks).depth ≤ 40) :
    (ts : Ts) → (j : Nat) → (most : Int) → (i : Int) → ks.list.drop j = ts.list → ts.ok x i = true → ts.flat.length ≤ 2048 → ts.depth ≤ 39 → max most (ts.depth : Int) = (ks.depth : Int) → 0 ≤ most → Ev (fun k => prompterlaw08_TreeBack.l0 k (T.node x ks).flat ks.list most (j : Int)) true
  | .nil, j, most, i, hj, hok, h1, h2, hm, hm0 => by
    have hlen := Ts.list_len ks
    have h' := h
    rw [T.ok] at h'
    simp only [Bool.and_eq_true] at h'
    have o3 := of_decide_eq_true h'.2.2.1
    have hx : rd_T43 (T.node x ks).flat 0 = x := by rw [T.flat]; rfl
    have hw : wrap64 (most + 1) = ((T.node x ks).depth : Int) := by
      rw [Ts.depth] at hm
      rw [T.depth] at hd ⊢
      rw [w64 hm0 (by omega)]
      omega
    have hp := T.flat_pos (T.node x ks)
    refine Ev.step (f := fun k => (tree_Make.f k x.f0 x.f1 x.f2 x.f3 ks.list).bind fun q => (if q.2 = 0 then ((prompterref08_Alike.f k q.1 (T.node x ks).flat).bind fun a => (if a = true then ((tree_Depth.f k (T.node x ks).flat).bind fun d => (if d = (wrap64 (most + 1)) then (if x.f1 = (ks.list.length : Int) then ((prompterlaw08_wakes.f k).bind fun u => (some u)) else (some false)) else (some false))) else (some false))) else (some false))) (fun k => ?_)
      (Ev.bind (make_right x.f1 h hl hd) (Ev.congr (fun k => if_pos rfl) (Ev.bind (alike8 (T.node x ks).flat (by omega)) (Ev.congr (fun k => if_pos rfl) (Ev.bind (Depth_is h hl hd) (Ev.congr (fun k => (if_pos hw.symm).trans (if_pos (by rw [hlen]; exact o3))) (Ev.bind treeWakes (Ev.now _))))))))
    show prompterlaw08_TreeBack.l0 (k + 1) _ _ _ _ = _
    rw [prompterlaw08_TreeBack.l0, if_neg (parts_end hj), if_pos (by omega), hx]
  | .cons t ts, j, most, i, hj, hok, h1, h2, hm, hm0 => by
    rw [Ts.list] at hj
    obtain ⟨hr, hlt, hdr⟩ := list_drop hj
    rw [Ts.ok, Bool.and_eq_true] at hok
    rw [Ts.flat, List.length_append] at h1
    rw [Ts.depth] at h2 hm
    have hn := Ts.list_len ks
    have hn2 := Ts.len_flat ks
    rw [T.flat, List.length_cons] at hl
    have ih := back_go h (by rw [T.flat, List.length_cons]; exact hl) hd ts (j + 1) (max most (t.depth : Int)) (i + 1) hdr hok.2 (by omega) (by omega) (by omega) (by omega)
    have em : mx most (t.depth : Int) = max most (t.depth : Int) := by unfold mx; omega
    refine Ev.step (f := fun k => (tree_Depth.f k t.flat).bind fun d => prompterlaw08_TreeBack.l0 k (T.node x ks).flat ks.list (mx most d) ((j + 1 : Nat) : Int)) (fun k => ?_) (Ev.bind (Depth_is (ok_any hok.1) (by omega) (by omega)) (Ev.congr (fun k => by rw [em]) ih))
    show prompterlaw08_TreeBack.l0 (k + 1) _ _ _ _ = _
    rw [prompterlaw08_TreeBack.l0, if_pos (by omega), if_pos (by omega), hr, w64 (by omega) (by omega)]
    rfl
theorem TreeBack (l : List Tw) (hs : l.length ≤ 3518437208780) : ∃ k, prompterlaw08_TreeBack.f k l = some true := by
  refine Ev.rounds ?_
  by_cases h5 : (l.length : Int) > 5000
  · exact Ev.congr (fun k => if_pos h5) (Ev.bind treeWakes (Ev.now _))
  refine Ev.congr (fun k => if_neg h5) ?_
  obtain ⟨c, c1, _⟩ := check_both l
  by_cases h0 : c.2 = 0
  · have e := check_zero c1 h0
    subst e
    obtain ⟨t, rfl, t2, t3, t4⟩ := check_tree c1
    cases t with
    | node x ks =>
    have h' := t2
    rw [T.ok] at h'
    simp only [Bool.and_eq_true] at h'
    have hd := t3
    rw [T.depth] at hd
    have hl := t4
    rw [T.flat, List.length_cons] at hl
    exact Ev.bind (f := fun k p => (tree_Check.f k (T.node x ks).flat).bind fun q => (if p.2 = q.2 then (if p.2 = 0 then (prompterlaw08_TreeBack.l0 k (T.node x ks).flat p.1 0 0) else (if (p.1.length : Int) = 0 then ((tree_Depth.f k (T.node x ks).flat).bind fun d => (if d = 0 then ((prompterlaw08_wakes.f k).bind fun u => (some u)) else (some false))) else (some false))) else (some false))) (parts_is t2 t4 t3)
      (Ev.bind c1 (Ev.congr (fun k => (if_pos rfl).trans (if_pos rfl)) (back_go t2 t4 t3 ks 0 0 0 rfl h'.2.2.2 (by omega) (by omega) (by omega) (by omega))))
  · have hp : Ev (fun k => tree_Parts.f k l) ([], c.2) := by
      refine Ev.bind (f := fun k q => if q.2 = 0 then tree_Parts.l0 k l ([] : List (List Tw)) 1 else some (([] : List (List Tw)), q.2)) c1 ?_
      exact Ev.congr (f := fun _ => some _) (fun k => if_neg h0) (Ev.now _)
    have hD : Ev (fun k => tree_Depth.f k l) 0 := by
      refine Ev.bind (f := fun k q => if q.2 = 0 then ((tree_depth.f k l).bind fun d => some d) else some 0) c1 ?_
      exact Ev.congr (f := fun _ => some _) (fun k => if_neg h0) (Ev.now _)
    exact Ev.bind (f := fun k p => (tree_Check.f k l).bind fun q => (if p.2 = q.2 then (if p.2 = 0 then (prompterlaw08_TreeBack.l0 k l p.1 0 0) else (if (p.1.length : Int) = 0 then ((tree_Depth.f k l).bind fun d => (if d = 0 then ((prompterlaw08_wakes.f k).bind fun u => (some u)) else (some false))) else (some false))) else (some false))) hp
      (Ev.bind c1 (Ev.congr (fun k => (if_pos rfl).trans ((if_neg h0).trans (if_pos rfl))) (Ev.bind hD (Ev.congr (fun k => if_pos rfl) (Ev.bind treeWakes (Ev.now _))))))
end Go.Proofs.Ytlbchdalimngjaa.Pure
namespace Go.Proofs.Ytlbchdalimngjaa.Read
open Go.ChangeShapes Go.WideShapes Go.RowKit Go.Proofs.YtlbchdalimngjaaW.PrintWords Go.Proofs.Ytlbchdalimngjaa.P
set_option linter.unusedVariables false
section
variable {H : Type} {enc : TypeId × Value → H} {P : Program} {w : World} {base : Nat} {spare : Nat → Bool} {held : Bool}
def Reads {α : Type} (enc : TypeId × Value → H) (P : Program) (w : World) (base : Nat) (spare : Nat → Bool) (held : Bool) (e : TypeId) (d : Kd α) (S : α → Prop) : Prop :=
  ∀ (fuel : Nat) (cs : List Value) (x : DataW H × List MemPlace), DataW.trod enc P w base spare held fuel e cs = some x → ∃ a, d.K w a cs ∧ ((∀ n ∈ x.1.weights P e, n ≤ reachBytes) → S a)
theorem weights_all (P : Program) (e : TypeId) : ∀ (l : List (DataW H)) (d : DataW H), d ∈ l → ∀ n ∈ d.weights P e, n ∈ DataW.weightsAll P e l
  | d0 :: l, d, hd, n, hn => by
    simp only [DataW.weightsAll, List.mem_append]
    rcases List.mem_cons.1 hd with rfl | hd
    · exact .inl hn
    · exact .inr (weights_all P e l d hd n hn)
theorem reads_slice {α : Type} [Inhabited α] {t e : TypeId} {d : Kd α} {S : α → Prop} (ht : P.underlying t = some (.slice e)) (hc : P.cellsOf e = d.sz) (hd : Reads enc P w base spare held e d S) {fuel : Nat} {cs : List Value} {x : DataW H × List MemPlace}
    (h : DataW.trod enc P w base spare held fuel t cs = some x) : ∃ (A : Option Addr) (c : Nat) (xs : List α), cs = [.slice A xs.length c] ∧ xs.length ≤ c ∧ d.C w A xs.length xs ∧ ((∀ n ∈ x.1.weights P t, n ≤ reachBytes) → xs.length * P.bytesOf e ≤ reachBytes ∧ ∀ y ∈ xs, S y) := by
  rcases Go.Deep.open_slice ht h with ⟨rfl, rfl⟩ | ⟨a, len, cap, m, n, D, Pl, rfl, hb, hl, hm, hmm, rfl, hi⟩
  · exact ⟨none, 0, [], rfl, Nat.le_refl _, ⟨rfl, by simp, fun h => absurd h (Nat.lt_irrefl 0)⟩, fun _ => ⟨by simp, by simp⟩⟩
  · have hlm : len ≤ m := by rw [hmm]; split <;> omega
    have all : ∀ i, ∃ y : α, i < len → (((∀ n ∈ (D i).weights P e, n ≤ reachBytes) → S y) ∧ ∃ c, c.length = d.sz ∧ d.K w y c ∧ ∀ j u, c[j]? = some u → w.cell? (a.add (i * d.sz + j)) = some u) := by
      intro i
      by_cases h : i < len
      · obtain ⟨cs', hcs, htr⟩ := hi i (by omega)
        obtain ⟨y, hy, hS⟩ := hd _ _ _ htr
        rw [hc] at hcs
        obtain ⟨_, hlen, hat⟩ := World.cells?_some hcs
        refine ⟨y, fun _ => ⟨hS, cs', hlen, hy, fun j u hj => ?_⟩⟩
        have hjl : j < d.sz := by rw [← hlen]; exact (List.getElem?_eq_some_iff.1 hj).1
        have := hat j hjl
        rw [Go.Deep.add_add] at this
        rw [this, hj]
      · exact ⟨default, fun h2 => absurd h2 h⟩
    obtain ⟨f, hf⟩ := Classical.skolem.1 all
    have hln : ((List.range len).map f).length = len := by simp
    refine ⟨some a, cap, (List.range len).map f, by rw [hln], by rw [hln]; exact hl, ?_, fun hw => ⟨?_, fun y hy => ?_⟩⟩
    rw [hln]
    refine ⟨hln, ?_, fun _ => ⟨a, rfl, fun j p hj => ?_⟩⟩
    · have : maxLen = 9223372036854775807 := rfl
      omega
    · rw [List.getElem?_map] at hj
      have hjl : j < len := by
        rcases Nat.lt_or_ge j len with h | h
        · exact h
        · rw [List.getElem?_eq_none (by simpa using h)] at hj; cases hj
      rw [List.getElem?_range hjl] at hj
      obtain rfl := Option.some.inj hj
      exact (hf j hjl).2
    · have := hw ((((List.range len).map D).length + (((List.range (m - len)).map fun j => D (len + j))).length) * P.bytesOf e) (by simp [DataW.weights, ht])
      rw [hln]
      rw [List.length_map, List.length_range] at this
      exact Nat.le_trans (Nat.mul_le_mul_right _ (Nat.le_add_right _ _)) this
    · obtain ⟨i, hi2, rfl⟩ := List.mem_map.1 hy
      have hil : i < len := List.mem_range.1 hi2
      refine (hf i hil).1 (fun n hn => hw n ?_)
      have := weights_all P e ((List.range len).map D) (D i) (List.mem_map.2 ⟨i, hi2, rfl⟩) n hn
      simp [DataW.weights, ht]
      exact .inr (.inl this)
theorem Reads.slice {α : Type} [Inhabited α] {t e : TypeId} {d : Kd α} {S : α → Prop} (ht : P.underlying t = some (.slice e)) (hc : P.cellsOf e = d.sz) (hd : Reads enc P w base spare held e d S) : Reads enc P w base spare held t (Kd.slice e d) (fun xs => xs.length * P.bytesOf e ≤ reachBytes ∧ ∀ y ∈ xs, S y) := by
  intro fuel cs x h
  obtain ⟨A, c, xs, rfl, hl, hC, hS⟩ := reads_slice ht hc hd h
  exact ⟨xs, ⟨A, c, rfl, hl, hC⟩, hS⟩
end
section
variable {H : Type} {enc : TypeId × Value → H} {w : World} {base : Nat} {spare : Nat → Bool} {held : Bool}
instance : Inhabited S43 := ⟨z43⟩
set_option maxRecDepth 100000 in
theorem reads_twig : Reads enc Try.prog w base spare held 43 k43 (fun _ => True) := by
  intro fuel cs x h
  obtain ⟨y0, y1, y2, y3, n, _, hl, h0, h1, h2, h3⟩ := Go.Joins.trod_struct4 Try.underlying43 h
  have hC : Try.prog.cellsOf 43 = 4 := by kernel_rfl
  rw [hC] at hl
  match cs, hl with
  | [c0, c1, c2, c3], _ =>
    have k5 : Try.prog.cellsOf 5 = 1 := by kernel_rfl
    have k3 : Try.prog.cellsOf 3 = 1 := by kernel_rfl
    have k2 : Try.prog.cellsOf 2 = 1 := by kernel_rfl
    have k9 : Try.prog.cellsOf 9 = 1 := by kernel_rfl
    dsimp only at h0 h1 h2 h3
    rw [k5] at h0
    rw [k3] at h1
    rw [k2] at h2
    rw [k9] at h3
    obtain ⟨n0, e0, _⟩ := DataW.trod_int Try.underlying5 h0
    obtain ⟨n1, e1, _⟩ := DataW.trod_int Try.underlying3 h1
    obtain ⟨n2, e2, _⟩ := DataW.trod_int Try.underlying2 h2
    obtain ⟨s3, e3, _⟩ := DataW.trod_string Try.underlying9 h3
    simp at e0 e1 e2 e3
    subst e0 e1 e2 e3
    exact ⟨⟨n0, n1, n2, s3⟩, k43_mk w ⟨n0, n1, n2, s3⟩, fun _ => trivial⟩
theorem sized_at {P : Program} {ts : List TypeId} {ds : List (DataW H)} (h : (DataW.weightsEach P (ts ++ []) (ds ++ [])).all (· ≤ reachBytes) = true) {j : Nat} {t : TypeId} {d : DataW H} (ht : ts[j]? = some t) (hd : ds[j]? = some d) : ∀ n ∈ DataW.weights P t d, n ≤ reachBytes := by
  intro n hn
  rw [List.append_nil, List.append_nil] at h
  have := List.all_eq_true.1 h _ (DataW.weights_mem_each ht hd n hn)
  simpa using this
theorem twig_bytes : Try.prog.bytesOf 43 = 40 := by kernel_rfl
theorem tree_le {l : List S43} {S : S43 → Prop} (h : l.length * Try.prog.bytesOf 43 ≤ reachBytes ∧ ∀ y ∈ l, S y) : l.length ≤ 3518437208780 := by
  have := h.1
  rw [twig_bytes] at this
  have e : reachBytes = 140737488351232 := by rfl
  omega
end
end Go.Proofs.Ytlbchdalimngjaa.Read
namespace Go.Proofs.Ytlbchdalimngjaa.treeBack
open Go.ChangeShapes Go.WideShapes Go.ChangeAt Go.RowKit Go.Proofs.Ytlbchdalimngjaa.Read Go.Proofs.Ytlbchdalimngjaa.P Go.Proofs.YtlbchdalimngjaaW.PrintWords
open Go.ChangeMaps (open_string shut_string)
set_option linter.unusedVariables false
theorem own : ownKnob Try.prog.godebug = none := by kernel_rfl
theorem laidOut : laidOutB Try.prog = true := by kernel_rfl
set_option maxRecDepth 100000 in
theorem lifted (os : Os) (started : os.Started) (H : Type) (enc : TypeId × Value → H) :
    ReturnsInHanded {} Try.checked os 9 .any (Rows.treeBackSpec.pre6 enc Try.prog Try.f9 Rows.treeBackRow.domain false) (Rows.treeBackSpec.post enc Try.prog Try.f9 false true false false) := by
  refine returnsInHanded_of_change_sized (C := Try.checked) own started (by kernel_rfl) Try.func9
    (ChangeSpec.witness6 (enc := enc) (C := Try.checked) false ⟨#[], #[.slice none 0 0], []⟩ 8 (by kernel_rfl) (by kernel_rfl) (by kernel_rfl) (by kernel_rfl)) ?_
  intro W base args ds gs before hval0 hW hcnd hsz0 _
  have hsz : (DataW.weightsEach Try.prog (Try.f9.params.toList ++ Rows.treeBackSpec.plain.varTypes Try.prog) (ds ++ gs)).all (· ≤ reachBytes) = true := hsz0
  have hval : ∀ (j : Nat) t v, Try.f9.params[j]? = some t → args[j]? = some v → Value.okWide Try.prog W .any base t v := hval0
  have hW' := hW
  obtain ⟨p, q, hA0, hV, rfl, hfz, hnd⟩ := hW
  have hA : DataW.TrodAll enc Try.prog W 0 (fun _ => true) true Try.f9.params.toList args.toList ds p := hA0
  rw [Try.params9] at hA hval hsz
  obtain ⟨v0, vs0, d0, ds0, p0, q0, hargs, rfl, rfl, h0, r0⟩ := trodAll_cons hA
  obtain ⟨rfl, rfl, rfl⟩ := trodAll_nil r0
  obtain rfl : args = #[v0] := by cases args; simp_all
  obtain ⟨rfl, rfl⟩ := trodVars_none hV
  have hwt : ∀ (j : Nat) t d, [36][j]? = some t → (d0 :: [])[j]? = some d → ∀ n ∈ DataW.weights Try.prog t d, n ≤ reachBytes := fun j t d a b n hn => sized_at hsz a b n hn
  have lt0 : ∀ x ∈ p0, x.block < W.heap.size := by obtain ⟨m, hm⟩ := h0; exact DataW.trod_lt m _ _ _ hm
  have g0 := h0
  obtain ⟨m0, hm0⟩ := h0
  obtain ⟨A0, c0, l0, e0, hc0, hr0, hs0⟩ := reads_slice Try.underlying36 (by kernel_rfl) reads_twig hm0
  obtain ⟨a0, n0, u0, ev0⟩ := okWide_slice Try.underlying36 (hval 0 36 v0 rfl rfl)
  subst ev0
  simp only [Value.cells, List.cons.injEq, Value.slice.injEq, and_true] at e0
  obtain ⟨rfl, rfl, rfl⟩ := e0
  have s0 := hs0 (hwt 0 36 d0 rfl rfl)
  clear hA0 hval0 hsz0 hsz hwt
  obtain ⟨k, hk⟩ := Pure.TreeBack l0 (tree_le s0)
  refine (P.prompterlaw08_TreeBack.calls k _ _ l0 true W hr0 hc0 hk).mono fun e W' ⟨he, bel⟩ => ?_
  subst he
  exact ⟨_, rfl, _, _, _, [], _, [], hW', trodAll_mk1 (shut_bool Try.underlying4 _), (trodAll_cons_mk (Below.trod laidOut (by kernel_rfl) (of_decide_eq_true (by kernel_rfl)) g0 bel lt0) trodAll_mk0), rfl, bel.frame _, fun h => by cases h⟩
theorem over : Rows.treeBackRow.holds Try.pinned (OpenSpec.ofChange Rows.treeBackSpec) :=
  OpenClaim.holds_of_wide 9 Try.f9 rfl rfl rfl rfl rfl rfl rfl ⟨rfl, rfl, rfl, rfl, rfl⟩ rfl rfl rfl rfl rfl (by kernel_rfl) Try.func9 (by kernel_rfl)
    (of_decide_eq_true (by kernel_rfl)) (by unfold Func.isWrapper; first | (rw [if_pos (by decide +kernel)]; kernel_rfl) | (rw [if_neg (by decide +kernel)]; exact ⟨rfl, rfl⟩))
    (fun os started H enc _ => lifted os started H enc)
theorem proved : Rows.TreeBackSaid := over
end Go.Proofs.Ytlbchdalimngjaa.treeBack
namespace Go.Proofs.Ytlbchdalimngjaa
theorem treeBack_holds : Rows.TreeBackSaid := treeBack.proved
end Go.Proofs.Ytlbchdalimngjaa
