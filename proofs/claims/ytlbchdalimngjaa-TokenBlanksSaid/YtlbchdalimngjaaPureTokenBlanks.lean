/- Proved here: the pure law of TokenBlanks: blanks, new lines and remarks between two sources change no token but its place (the given statement's own bounds on the sources' sizes). -/
import Derived.Test.YtlbchdalimngjaaXLexd
import Derived.OpenShut
import Derived.Test.YtlbchdalimngjaaPx27
namespace Go.Proofs.Ytlbchdalimngjaa.Pure
open Go.RowKit Go.Proofs.Ytlbchdalimngjaa.P Go.Proofs.YtlbchdalimngjaaW.PrintWords Go.Proofs.YtlbchdalimngjaaW.PrintLast Go.Proofs.Ytlbchdalimngjaa.Lex
set_option linter.unusedVariables false
set_option linter.unusedSimpArgs false

theorem lx_blank (l : List UInt8) (p : Nat) (acc : List LTok) : lx (32 :: l) p acc = lx l (p + 1) acc := by
  rw [lx_skip (n := 1) (by rw [one, if_pos (.inl rfl)])]
  rfl
theorem lx_newline (l : List UInt8) (p : Nat) (acc : List LTok) : lx (10 :: l) p acc = lx l (p + 1) acc := by
  rw [lx_skip (n := 1) (by rw [one, if_pos (.inr rfl)])]
  rfl
theorem lx_blanks (n : Nat) (l : List UInt8) (p : Nat) (acc : List LTok) : lx (List.replicate n 32 ++ l) p acc = lx l (p + n) acc := by
  induction n generalizing p with
  | zero => rfl
  | succ n ih =>
    rw [List.replicate_succ, List.cons_append, lx_blank, ih]
    congr 1
    omega
def pairs (n : Nat) : List UInt8 := (List.replicate n [97, 34]).flatten
theorem pairs_len (n : Nat) : (pairs n).length = 2 * n := by
  induction n with
  | zero => rfl
  | succ n ih => rw [pairs, List.replicate_succ, List.flatten_cons, List.length_append, ← pairs, ih]; simp; omega
theorem pairs_snoc (n : Nat) : pairs n ++ [97, 34] = pairs (n + 1) := by
  unfold pairs
  rw [List.replicate_succ', List.flatten_append]
  simp
theorem pairs_all (n : Nat) (l : List UInt8) : (pairs n ++ 10 :: l).takeWhile (fun d => decide (d.toNat ≠ 10)) = pairs n := by
  induction n with
  | zero => simp [pairs]
  | succ n ih =>
    have e : pairs (n + 1) = 97 :: 34 :: pairs n := by rw [pairs, List.replicate_succ, List.flatten_cons]; rfl
    rw [e, List.cons_append, List.cons_append, List.takeWhile_cons_of_pos (by decide), List.takeWhile_cons_of_pos (by decide), ih]
theorem lx_remark (n : Nat) (l : List UInt8) (p : Nat) (acc : List LTok) : lx (35 :: pairs n ++ 10 :: l) p acc = lx l (p + (2 * n + 2)) acc := by
  have h : one (35 :: (pairs n ++ 10 :: l)) = .skip (1 + (pairs n).length) := by
    rw [one, if_neg (by decide), if_pos (by decide), pairs_all]
  rw [List.cons_append, lx_skip h, Nat.add_comm 1, List.drop_succ_cons, List.drop_left, lx_newline, pairs_len]
  rfl
/-- What stands between the two sources, behind the new line. -/
def between (a2 a3 : Nat) : List UInt8 := List.replicate a2 32 ++ (if 0 < a3 then 35 :: pairs a3 ++ [10] else [])
theorem lx_between (a2 a3 : Nat) (l : List UInt8) (p : Nat) (acc : List LTok) : lx (between a2 a3 ++ l) p acc = lx l (p + (between a2 a3).length) acc := by
  unfold between
  rw [List.append_assoc, lx_blanks]
  by_cases h : 0 < a3
  · rw [if_pos h, List.append_assoc, List.singleton_append, lx_remark]
    congr 1
    simp [pairs_len]
    omega
  · rw [if_neg h]
    simp
theorem between_len (a2 a3 : Nat) (h2 : a2 ≤ 255) (h3 : a3 ≤ 255) : (between a2 a3).length ≤ 1000 := by
  unfold between
  split
  · simp [pairs_len]; omega
  · simp; omega
section
variable (x1 : ByteArray) (hx : x1.size ≤ 4000) (lA lB : List LTok) (hB : lexAll x1.data.toList = .ok lB)
/-- The tokens behind, one by one. -/
theorem blanks_last (G : ByteArray) (hG : G.size ≤ 6000) (hA : lA.length ≤ 6000) (hBl : lB.length ≤ 4000) (hBp : ∀ t ∈ lB, t.pos ≤ 4000) : ∀ (n i : Nat), i + n = lB.length →
    Ev (fun k => prompterlaw07_TokenBlanks.l2 k (lA.map LTok.S) (lB.map LTok.S) G ((lA ++ lB.map (LTok.shift G.size)).map LTok.S) (i : Int)) true
  | 0, i, h => Ev.step (f := fun k => (prompterlaw07_wakes.f k).bind fun t => some t) (fun k => by
      show prompterlaw07_TokenBlanks.l2 (k + 1) _ _ _ _ (i : Int) = _
      rw [prompterlaw07_TokenBlanks.l2, if_neg (by rw [List.length_map]; omega)]) (Ev.bind wakes_is (Ev.now _))
  | n + 1, i, h => by
    have hi : i < lB.length := by omega
    obtain ⟨t, ht⟩ : ∃ t, lB[i]? = some t := ⟨_, List.getElem?_eq_getElem hi⟩
    have hp := hBp t (List.mem_of_getElem? ht)
    have r1 : rd_T33 (lB.map LTok.S) (i : Int) = t.S := rd_at _ _ _ (by rw [List.getElem?_map, ht]; rfl)
    have r2 : rd_T33 ((lA ++ lB.map (LTok.shift G.size)).map LTok.S) ((lA.length + i : Nat) : Int) = (t.shift G.size).S :=
      rd_at _ _ _ (by rw [List.getElem?_map, List.getElem?_append_right (by omega), Nat.add_sub_cancel_left, List.getElem?_map, ht]; rfl)
    have ew : wrap64 (((lA.map LTok.S).length : Int) + (i : Int)) = ((lA.length + i : Nat) : Int) := by
      rw [List.length_map, w64b (by omega) (by omega)]; rfl
    refine Ev.step (fun k => ?_) (blanks_last G hG hA hBl hBp n (i + 1) (by omega))
    show prompterlaw07_TokenBlanks.l2 (k + 1) _ _ _ _ (i : Int) = _
    rw [prompterlaw07_TokenBlanks.l2, if_pos (by rw [List.length_map]; omega), ew, if_pos (by omega), if_pos (by simp; omega), if_pos (by omega), r1, r2, w64 (by omega) (by omega)]
    have e3 : wrap64 ((t.shift G.size).S.f3 - (G.size : Int)) = t.S.f3 := by
      show wrap64 (((t.pos + G.size : Nat) : Int) - (G.size : Int)) = (t.pos : Int)
      rw [w64b (by omega) (by omega)]; omega
    rw [e3, if_neg (by
      show ¬ _
      have a : (t.shift G.size).S.f0 = t.S.f0 := rfl
      have b : (t.shift G.size).S.f1 = t.S.f1 := rfl
      have c : (t.shift G.size).S.f2 = t.S.f2 := rfl
      rw [a, b, c]
      simp)]
    rfl
theorem blanks_end (a0 : ByteArray) (ha : a0.size ≤ 4000) (hA : lexAll a0.data.toList = .ok lA) (a2 a3 : Nat) (h2 : a2 ≤ 255) (h3 : a3 ≤ 255) (G : ByteArray) (hG : G.data.toList = a0.data.toList ++ 10 :: between a2 a3) (hx : x1.size ≤ 4000) (hB : lexAll x1.data.toList = .ok lB) :
    Ev (fun k => prompterlaw07_TokenBlanks.j4 k x1 (lA.map LTok.S) (lB.map LTok.S) G) true := by
  have hbl := between_len a2 a3 h2 h3
  have sz : G.size = a0.size + 1 + (between a2 a3).length := by
    have := congrArg List.length hG
    rw [size_list, List.length_append, size_list, List.length_cons] at this
    omega
  have la : lx a0.data.toList 0 [] = .ok lA := by rw [← lexAll_lx (by rw [size_list]; omega)]; exact hA
  have lb : lx x1.data.toList 0 [] = .ok lB := by rw [← lexAll_lx (by rw [size_list]; omega)]; exact hB
  obtain ⟨cA, _⟩ := toks_count _ _ _ _ _ la
  obtain ⟨cB, pB⟩ := toks_count _ _ _ _ _ lb
  rw [size_list] at cA cB
  simp only [List.length_nil, Nat.zero_add] at cA cB
  have all : lexAll (G ++ x1).data.toList = .ok (lA ++ lB.map (LTok.shift G.size)) := by
    have hlen : (G ++ x1).data.toList.length ≤ 16384 := by rw [size_list, size_app]; omega
    rw [lexAll_lx hlen, data_app, hG, List.append_assoc, List.cons_append, lx_line _ _ _ _ _ _ (Nat.lt_succ_self _) la, lx_newline, lx_between, lx_at, lb]
    show Except.ok _ = _
    rw [size_list, show 0 + a0.size + 1 + (between a2 a3).length = G.size by omega]
  have hall := all_is (G ++ x1)
  rw [all] at hall
  refine Ev.step (f := fun k => if G.size + x1.size ≤ 9223372036854775807 then ((token_All.f k (G ++ x1)).bind fun q => (if q.2.2 = 0 then (if (q.1.length : Int) = (wrap64 (((lA.map LTok.S).length : Int) + ((lB.map LTok.S).length : Int))) then (if 0 ≤ ((lA.map LTok.S).length : Int) then (if ((lA.map LTok.S).length : Int) ≤ (q.1.length : Int) then ((prompterlaw07_Alike.f k (q.1.take (((lA.map LTok.S).length : Int) : Int).toNat) (lA.map LTok.S)).bind fun t => (prompterlaw07_TokenBlanks.j5 k (lA.map LTok.S) (lB.map LTok.S) G q.1 (!t))) else (none)) else (none)) else (prompterlaw07_TokenBlanks.j5 k (lA.map LTok.S) (lB.map LTok.S) G q.1 true)) else (prompterlaw07_TokenBlanks.j5 k (lA.map LTok.S) (lB.map LTok.S) G q.1 true))) else (none)) (fun k => rfl) ?_
  simp only [if_pos (show G.size + x1.size ≤ 9223372036854775807 by omega)]
  refine Ev.bind hall ?_
  have e1 : ((((lA ++ lB.map (LTok.shift G.size)).map LTok.S).length : Nat) : Int) = wrap64 (((lA.map LTok.S).length : Int) + ((lB.map LTok.S).length : Int)) := by
    simp only [List.length_map, List.length_append]
    rw [w64b (by omega) (by omega)]
    omega
  have e2 : ((lA ++ lB.map (LTok.shift G.size)).map LTok.S).take (((lA.map LTok.S).length : Int)).toNat = lA.map LTok.S := by
    rw [Int.toNat_natCast, List.map_append, List.take_left]
  dsimp only [told]
  simp only [if_true, if_pos e1, if_pos (show (0 : Int) ≤ ((lA.map LTok.S).length : Int) by omega), if_pos (show ((lA.map LTok.S).length : Int) ≤ (((lA ++ lB.map (LTok.shift G.size)).map LTok.S).length : Int) by simp; omega), e2]
  refine Ev.bind (alike_refl _ (by rw [List.length_map]; omega)) ?_
  refine Ev.step (f := fun k => prompterlaw07_TokenBlanks.l2 k (lA.map LTok.S) (lB.map LTok.S) G ((lA ++ lB.map (LTok.shift G.size)).map LTok.S) 0) (fun k => ?_) ?_
  · show prompterlaw07_TokenBlanks.j5 (k + 1) _ _ _ _ _ = _
    rw [prompterlaw07_TokenBlanks.j5]
    rfl
  · exact blanks_last lA lB G (by omega) (by omega) (by omega) (fun t ht => by
      rcases pB t ht with x | x
      · cases x
      · rw [size_list] at x; omega) lB.length 0 (by omega)
/-- The remark. -/
theorem blanks_remark (r : Bool) (a0 : ByteArray) (a2 : Nat) (a3 : Nat) (h3 : a3 ≤ 255) (base : List UInt8) (hb : base.length ≤ 5000) (X A : List S33)
    (fin : ∀ G : ByteArray, G.data.toList = base ++ pairs a3 ++ [10] → Ev (fun k => prompterlaw07_TokenBlanks.j4 k x1 A X G) r) :
    ∀ (n i : Nat) (G : ByteArray), i + n = a3 → G.data.toList = base ++ pairs i → Ev (fun k => prompterlaw07_TokenBlanks.l1 k x1 (a3 : Int) A X G (i : Int)) r
  | 0, i, G, h, hG => by
    have sz : G.size = base.length + 2 * i := by rw [← size_list, hG, List.length_append, pairs_len]
    refine Ev.step (fun k => ?_) (fin (G ++ ⟨#[10]⟩) (by rw [data_app, hG, show i = a3 by omega]))
    show prompterlaw07_TokenBlanks.l1 (k + 1) x1 _ _ _ _ _ = _
    rw [prompterlaw07_TokenBlanks.l1, w64b (by omega) (by omega), if_neg (by omega), if_pos (by omega)]
  | n + 1, i, G, h, hG => by
    have sz : G.size = base.length + 2 * i := by rw [← size_list, hG, List.length_append, pairs_len]
    refine Ev.step (fun k => ?_) (blanks_remark r a0 a2 a3 h3 base hb X A fin n (i + 1) (G ++ ⟨#[97, 34]⟩) (by omega) (by
      rw [data_app, hG, List.append_assoc, ← pairs_snoc]))
    show prompterlaw07_TokenBlanks.l1 (k + 1) x1 _ _ _ _ _ = _
    rw [prompterlaw07_TokenBlanks.l1, w64b (by omega) (by omega), if_pos (by omega), if_pos (by omega), w64 (by omega) (by omega)]
    rfl
/-- The blanks. -/
theorem blanks_spaces (r : Bool) (a2 a3 : Nat) (h2 : a2 ≤ 255) (h3 : a3 ≤ 255) (base : List UInt8) (hb : base.length ≤ 4500) (X A : List S33)
    (fin : ∀ G : ByteArray, G.data.toList = base ++ between a2 a3 → Ev (fun k => prompterlaw07_TokenBlanks.j4 k x1 A X G) r) :
    ∀ (n i : Nat) (G : ByteArray), i + n = a2 → G.data.toList = base ++ List.replicate i 32 → Ev (fun k => prompterlaw07_TokenBlanks.l0 k x1 (a2 : Int) (a3 : Int) A X G (i : Int)) r
  | 0, i, G, h, hG => by
    have sz : G.size = base.length + i := by rw [← size_list, hG, List.length_append, List.length_replicate]
    have ha2 : i = a2 := by omega
    subst ha2
    by_cases h0 : 0 < a3
    · have hbt : between i a3 = List.replicate i 32 ++ (35 :: pairs a3 ++ [10]) := by rw [between, if_pos h0]
      refine Ev.step (fun k => ?_) (blanks_remark x1 r G i a3 h3 (base ++ List.replicate i 32 ++ [35]) (by simp; omega) X A (fun G' hG' => fin G' (by rw [hG', hbt]; simp)) a3 0 (G ++ ⟨#[35]⟩) (by omega) (by
        rw [data_app, hG]; simp [pairs]))
      show prompterlaw07_TokenBlanks.l0 (k + 1) x1 _ _ _ _ _ _ = _
      rw [prompterlaw07_TokenBlanks.l0, w64b (by omega) (by omega), if_neg (by omega), if_pos (by omega), if_pos (by omega)]
      rfl
    · have hbt : between i a3 = List.replicate i 32 := by rw [between, if_neg h0, List.append_nil]
      refine Ev.step (fun k => ?_) (fin G (by rw [hG, hbt]))
      show prompterlaw07_TokenBlanks.l0 (k + 1) x1 _ _ _ _ _ _ = _
      rw [prompterlaw07_TokenBlanks.l0, w64b (by omega) (by omega), if_neg (by omega), if_neg (by omega)]
  | n + 1, i, G, h, hG => by
    have sz : G.size = base.length + i := by rw [← size_list, hG, List.length_append, List.length_replicate]
    refine Ev.step (fun k => ?_) (blanks_spaces r a2 a3 h2 h3 base hb X A fin n (i + 1) (G ++ ⟨#[32]⟩) (by omega) (by
      rw [data_app, hG, List.append_assoc, List.replicate_succ']))
    show prompterlaw07_TokenBlanks.l0 (k + 1) x1 _ _ _ _ _ _ = _
    rw [prompterlaw07_TokenBlanks.l0, w64b (by omega) (by omega), if_pos (by omega), if_pos (by omega), w64 (by omega) (by omega)]
    rfl
end
theorem wakes_some : Ev (fun k => (prompterlaw07_wakes.f k).bind fun t => some t) true := Ev.bind wakes_is (Ev.now _)
/-- YOURS. -/
theorem TokenBlanks : prompterlaw07_TokenBlanks.Pure := by
  intro a0 a1 a2 a3 s0 s1 w2 w3
  have b2 : 0 ≤ a2 ∧ a2 ≤ 255 := bounds_u8 w2
  have b3 : 0 ≤ a3 ∧ a3 ≤ 255 := bounds_u8 w3
  obtain ⟨n2, rfl⟩ : ∃ n : Nat, a2 = (n : Int) := ⟨a2.toNat, by omega⟩
  obtain ⟨n3, rfl⟩ : ∃ n : Nat, a3 = (n : Int) := ⟨a3.toNat, by omega⟩
  refine Ev.rounds ?_
  have big : Ev (fun k => prompterlaw07_TokenBlanks.j0 k a0 a1 (n2 : Int) (n3 : Int) true) true :=
    Ev.step (fun k => by show prompterlaw07_TokenBlanks.j0 (k + 1) _ _ _ _ _ = _; rw [prompterlaw07_TokenBlanks.j0, if_pos rfl]) wakes_some
  by_cases h0 : (a0.size : Int) > 4000
  · refine Ev.congr (fun k => ?_) big
    show prompterlaw07_TokenBlanks.f k _ _ _ _ = _
    rw [prompterlaw07_TokenBlanks.f, if_pos h0]
  by_cases h1 : (a1.size : Int) > 4000
  · refine Ev.congr (fun k => ?_) big
    show prompterlaw07_TokenBlanks.f k _ _ _ _ = _
    rw [prompterlaw07_TokenBlanks.f, if_neg h0, decide_eq_true h1]
  refine Ev.congr (f := fun k => prompterlaw07_TokenBlanks.j0 k a0 a1 (n2 : Int) (n3 : Int) false) (fun k => ?_) ?_
  · show prompterlaw07_TokenBlanks.f k _ _ _ _ = _
    rw [prompterlaw07_TokenBlanks.f, if_neg h0, decide_eq_false h1]
  refine Ev.step (f := fun k => (token_All.f k a0).bind fun p => ((token_All.f k a1).bind fun q => (if p.2.2 = 0 then (prompterlaw07_TokenBlanks.j1 k a0 a1 (n2 : Int) (n3 : Int) p.1 p.2.2 q.1 (q.2.2 != 0)) else (prompterlaw07_TokenBlanks.j1 k a0 a1 (n2 : Int) (n3 : Int) p.1 p.2.2 q.1 true)))) (fun k => rfl) ?_
  refine Ev.bind (all_is a0) (Ev.bind (all_is a1) ?_)
  cases hA : lexAll a0.data.toList with
  | error pe =>
    obtain ⟨p, e⟩ := pe
    have he := lexAll_bad hA
    refine Ev.congr (f := fun k => prompterlaw07_TokenBlanks.j1 k a0 a1 (n2 : Int) (n3 : Int) [] (e : Int) (told (lexAll a1.data.toList)).1 true) (fun k => if_neg (show ¬ (e : Int) = 0 by omega)) ?_
    refine Ev.step (fun k => ?_) wakes_some
    show prompterlaw07_TokenBlanks.j1 (k + 1) _ _ _ _ _ _ _ _ = _
    rw [prompterlaw07_TokenBlanks.j1, if_pos rfl, if_neg (by omega), if_pos (by simp)]
  | ok lA =>
    refine Ev.congr (f := fun k => prompterlaw07_TokenBlanks.j1 k a0 a1 (n2 : Int) (n3 : Int) (lA.map LTok.S) 0 (told (lexAll a1.data.toList)).1 ((told (lexAll a1.data.toList)).2.2 != 0)) (fun k => if_pos rfl) ?_
    cases hB : lexAll a1.data.toList with
    | error pe =>
      obtain ⟨p, e⟩ := pe
      have he := lexAll_bad hB
      refine Ev.step (fun k => ?_) wakes_some
      show prompterlaw07_TokenBlanks.j1 (k + 1) _ _ _ _ _ _ _ _ = _
      rw [prompterlaw07_TokenBlanks.j1, if_pos (show ((told (Except.error (p, e))).2.2 != 0) = true by simp [told]; omega), if_pos rfl, if_pos (by simp)]
    | ok lB =>
      refine Ev.step (f := fun k => prompterlaw07_TokenBlanks.l0 k a1 (n2 : Int) (n3 : Int) (lA.map LTok.S) (lB.map LTok.S) (a0 ++ (⟨#[10]⟩ : ByteArray)) 0) (fun k => ?_) ?_
      · show prompterlaw07_TokenBlanks.j1 (k + 1) _ _ _ _ _ _ _ _ = _
        rw [prompterlaw07_TokenBlanks.j1, if_neg (by simp [told]), if_pos (by omega)]
        rfl
      · exact blanks_spaces a1 true n2 n3 (by omega) (by omega) (a0.data.toList ++ [10]) (by simp; omega) _ _ (fun G hG => blanks_end a1 lA lB a0 (by omega) hA n2 n3 (by omega) (by omega) G (by rw [hG]; simp) (by omega) hB) n2 0 _ (by omega) (by rw [data_app]; simp)
end Go.Proofs.Ytlbchdalimngjaa.Pure
