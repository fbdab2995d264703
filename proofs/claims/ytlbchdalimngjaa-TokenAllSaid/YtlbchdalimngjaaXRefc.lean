/- Proved here: a text's walk in prompterref07 is what the lexer over lists of bytes says (no condition). -/
import Derived.Test.YtlbchdalimngjaaXRefb
import Derived.Test.YtlbchdalimngjaaPx8
namespace Go.Proofs.Ytlbchdalimngjaa.Lex
open Go.RowKit Go.Proofs.YtlbchdalimngjaaW.PrintWords Go.Proofs.YtlbchdalimngjaaW.PrintLast Go.Proofs.Ytlbchdalimngjaa.P
set_option linter.unusedVariables false
set_option linter.unusedSimpArgs false

theorem refhex_is (c : UInt8) : prompterref07_Hex.f (c.toNat : Int) = some (match hexVal c with | some v => (v : Int) | none => -1) := by
  have key : ∀ n : Nat, n < 256 → prompterref07_Hex.f (((UInt8.ofNat n).toNat : Nat) : Int) = some (match hexVal (UInt8.ofNat n) with | some v => (v : Int) | none => -1) := by decide +kernel
  have := key c.toNat c.toNat_lt
  rwa [show UInt8.ofNat c.toNat = c by simp] at this
/-- What the walk behind a backslash answers. -/
def escTold (q : Int) : Except (Nat × Nat) (UInt8 × Nat) → Int × Int × Int × Int
  | .ok (x, n) => ((x.toNat : Int), q + n, 0, 0)
  | .error (o, e) => (0, 0, q + o, (e : Int))
theorem esc_hex (s : ByteArray) (hs : s.size ≤ 16384) (p j : Nat) (hj : j < 2) (x : Nat) (hx : x < 16) (cs : List UInt8) (h : s.data.toList.drop (p + 1 + j) = cs) (hi : p + 1 + j ≤ s.size) (r : Int × Int × Int × Int)
    (r1 : cs = [] → r = (0, 0, ((p + 1 + j : Nat) : Int), 4))
    (r2 : ∀ g l, cs = g :: l → hexVal g = none → r = (0, 0, ((p + 1 + j : Nat) : Int), 9))
    (r3 : ∀ g l v, cs = g :: l → hexVal g = some v → Ev (fun k => prompterref07_escape.l0 k s (p : Int) ((16 * x + v : Nat) : Int) ((p + 1 + (j + 1) : Nat) : Int)) r) :
    Ev (fun k => prompterref07_escape.l0 k s (p : Int) (x : Int) ((p + 1 + j : Nat) : Int)) r := by
  have ew : wrap64 ((p : Int) + 3) = ((p + 3 : Nat) : Int) := by rw [w64b (by omega) (by omega)]; rfl
  cases cs with
  | nil =>
    have hz := size_of_nil h hi
    refine Ev.step (f := fun _ => some _) (fun k => ?_) (Ev.now _)
    show prompterref07_escape.l0 (k + 1) s _ _ _ = _
    rw [prompterref07_escape.l0, ew, if_pos (by omega), if_pos (by omega), r1 rfl, hz]
  | cons g l =>
    obtain ⟨hb, hlt, hd⟩ := bt_get h
    cases hv : hexVal g with
    | none =>
      refine Ev.step (f := fun _ => some _) (fun k => ?_) (Ev.now _)
      show prompterref07_escape.l0 (k + 1) s _ _ _ = _
      rw [prompterref07_escape.l0, ew, if_pos (by omega), if_neg (by omega), if_pos (by omega), if_pos (by omega), hb, refhex_is, hv, r2 g l rfl hv]
      rfl
    | some v =>
      have hv16 := hexVal_lt hv
      refine Ev.step (fun k => ?_) (r3 g l v rfl hv)
      show prompterref07_escape.l0 (k + 1) s _ _ _ = _
      rw [prompterref07_escape.l0, ew, if_pos (by omega), if_neg (by omega), if_pos (by omega), if_pos (by omega), hb, refhex_is, hv]
      simp only [Option.bind_some]
      have e7 : wrap64 (wrap64 (16 * (x : Int)) + (v : Int)) = ((16 * x + v : Nat) : Int) := by
        rw [w64b (y := 16 * (x : Int)) (by omega) (by omega), w64b (by omega) (by omega)]
        omega
      rw [if_neg (by omega), e7, w64 (by omega) (by omega)]
      rfl
theorem esc_is (s : ByteArray) (hs : s.size ≤ 16384) (q : Nat) (c : UInt8) (cs : List UInt8) (h : s.data.toList.drop q = c :: cs) (hc : c.toNat = 92) : Ev (fun k => prompterref07_escape.f k s ((q + 1 : Nat) : Int)) (escTold q (chr (c :: cs))) := by
  obtain ⟨hb0, hlt0, hd0⟩ := bt_get h
  have hbad : ¬ (c.toNat < 32 ∨ 126 < c.toNat) := by omega
  match cs, hd0 with
  | [], hd0 =>
    have hz := size_of_nil hd0 (by omega)
    refine Ev.congr (fun k => ?_) (Ev.now _)
    show prompterref07_escape.f k s _ = _
    rw [prompterref07_escape.f, if_pos (by omega)]
    simp only [chr, if_neg hbad, hc, ne_eq, not_true, if_false, escTold]
    rw [← hz]
    rfl
  | d :: cs, hd0 =>
    obtain ⟨hb, hlt, hd⟩ := bt_get hd0
    simp only [chr, if_neg hbad, hc, ne_eq, not_true, if_false]
    have w1 : wrap64 (((q + 1 : Nat) : Int) + 1) = ((q + 1 + 1 : Nat) : Int) := by rw [w64 (by omega) (by omega)]; rfl
    by_cases hq : d.toNat = 34 ∨ d.toNat = 92
    · rw [if_pos hq]
      refine Ev.congr (f := fun k => prompterref07_escape.j0 k s ((q + 1 : Nat) : Int) (d.toNat : Int) true) (fun k => ?_) (Ev.step (f := fun _ => some _) (fun k => ?_) (Ev.now _))
      · show prompterref07_escape.f k s _ = _
        rw [prompterref07_escape.f, if_neg (by omega), if_pos (by omega), if_pos (by omega), hb]
        by_cases h34 : d.toNat = 34
        · rw [if_pos (by omega)]
        · rw [if_neg (by omega)]
          congr 1
          simp
          omega
      · show prompterref07_escape.j0 (k + 1) s _ _ _ = _
        rw [prompterref07_escape.j0, if_pos rfl, w1]
        simp [escTold]
        omega
    rw [if_neg hq]
    refine Ev.congr (f := fun k => prompterref07_escape.j0 k s ((q + 1 : Nat) : Int) (d.toNat : Int) false) (fun k => ?_) ?_
    · show prompterref07_escape.f k s _ = _
      rw [prompterref07_escape.f, if_neg (by omega), if_pos (by omega), if_pos (by omega), hb, if_neg (by omega)]
      congr 1
      simp
      omega
    by_cases h110 : d.toNat = 110
    · rw [if_pos h110]
      refine Ev.step (f := fun _ => some _) (fun k => ?_) (Ev.now _)
      show prompterref07_escape.j0 (k + 1) s _ _ _ = _
      rw [prompterref07_escape.j0, if_neg (by decide), if_pos (by omega), w1]
      simp [escTold]
      omega
    rw [if_neg h110]
    by_cases h120 : d.toNat = 120
    · rw [if_neg (show ¬ ¬ d.toNat = 120 from fun x => x h120)]
      refine Ev.step (f := fun k => prompterref07_escape.l0 k s ((q + 1 : Nat) : Int) ((0 : Nat) : Int) ((q + 1 + 1 + 0 : Nat) : Int)) (fun k => ?_) ?_
      · show prompterref07_escape.j0 (k + 1) s _ _ _ = _
        rw [prompterref07_escape.j0, if_neg (by decide), if_neg (by omega), if_pos (by omega), w1]
        rfl
      refine esc_hex s hs (q + 1) 0 (by omega) 0 (by omega) cs hd (by omega) _ ?_ ?_ ?_
      · rintro rfl
        simp [escTold]
      · rintro g l rfl hv
        simp only [hv]
        simp [escTold]
      · rintro g l a rfl hv
        obtain ⟨hb4, hlt4, hd4⟩ := bt_get hd
        have ha := hexVal_lt hv
        simp only [hv]
        rw [show 16 * 0 + a = a by omega]
        refine esc_hex s hs (q + 1) 1 (by omega) a ha l hd4 (by omega) _ ?_ ?_ ?_
        · rintro rfl
          simp [escTold]
          omega
        · rintro g2 l2 rfl hv2
          simp only [hv2]
          simp [escTold]
          omega
        · rintro g2 l2 b rfl hv2
          have hbb := hexVal_lt hv2
          obtain ⟨hb5, hlt5, hd5⟩ := bt_get hd4
          simp only [hv2]
          refine Ev.step (f := fun _ => some _) (fun k => ?_) (Ev.now _)
          show prompterref07_escape.l0 (k + 1) s _ _ _ = _
          have ew : wrap64 (((q + 1 : Nat) : Int) + 3) = ((q + 4 : Nat) : Int) := by rw [w64b (by omega) (by omega)]; omega
          rw [prompterref07_escape.l0, ew, if_neg (by omega)]
          simp [escTold]
    · rw [if_pos (show ¬ d.toNat = 120 from h120)]
      refine Ev.step (f := fun _ => some _) (fun k => ?_) (Ev.now _)
      show prompterref07_escape.j0 (k + 1) s _ _ _ = _
      rw [prompterref07_escape.j0, if_neg (by decide), if_neg (by omega), if_neg (by omega)]
      simp [escTold]
theorem reftext_go (s : ByteArray) (hs : s.size ≤ 16384) (i : Nat) : ∀ (n : Nat) (cs out : List UInt8) (o : Nat), cs.length < n → s.data.toList.drop (i + o) = cs → i + o ≤ s.size → out.length ≤ 4095 →
    Ev (fun k => prompterref07_text.l0 k s (i : Int) (bytesInt out) ((i + o : Nat) : Int)) (stepR i (textGo n cs o out))
  | 0, _, _, _, h, _, _, _ => absurd h (Nat.not_lt_zero _)
  | n + 1, [], out, o, hn, h, hi, ho => by
    have he := drop_nil h
    have hz := size_of_nil h hi
    refine Ev.step (f := fun k => prompterref07_text.j1 k s (i : Int) (bytesInt out) ((i + o : Nat) : Int) false) (fun k => ?_) (Ev.step (f := fun _ => some _) (fun k => ?_) (Ev.now _))
    · show prompterref07_text.l0 (k + 1) s _ _ _ = _
      rw [prompterref07_text.l0, if_neg he]
    · show prompterref07_text.j1 (k + 1) s _ _ _ _ = _
      rw [prompterref07_text.j1, if_neg (by decide), if_pos (by omega), wrong_is]
      simp only [Option.bind_some, textGo, stepR]
      rw [show (s.size : Int) = (i : Int) + (o : Int) by omega]
      rfl
  | n + 1, c :: cs, out, o, hn, h, hi, ho => by
    obtain ⟨hb, hlt, hd⟩ := bt_get h
    have hlen : (bytesInt out).length = out.length := by simp [bytesInt]
    have hsnoc : ∀ x : UInt8, bytesInt out ++ [(x.toNat : Int)] = bytesInt (out ++ [x]) := fun x => by simp [bytesInt]
    by_cases hq : c.toNat = 34
    · have e1 : (((c.toNat : Nat) : Int) != 34) = false := by simp; omega
      refine Ev.step (f := fun k => prompterref07_text.j1 k s (i : Int) (bytesInt out) ((i + o : Nat) : Int) false) (fun k => ?_) (Ev.step (f := fun _ => some _) (fun k => ?_) (Ev.now _))
      · show prompterref07_text.l0 (k + 1) s _ _ _ = _
        rw [prompterref07_text.l0, if_pos (by omega), if_pos (by omega), hb, e1]
      · show prompterref07_text.j1 (k + 1) s _ _ _ _ = _
        rw [prompterref07_text.j1, if_neg (by decide), if_neg (by omega), w64 (by omega) (by omega), strOf_bytes]
        simp only [textGo, hq, if_true, stepR]
        rw [show ((i + o : Nat) : Int) + 1 = (i : Int) + ((o + 1 : Nat) : Int) by omega]
        rfl
    have e1 : (((c.toNat : Nat) : Int) != 34) = true := by simp; omega
    refine Ev.step (f := fun k => prompterref07_text.j1 k s (i : Int) (bytesInt out) ((i + o : Nat) : Int) true) (fun k => ?_) ?_
    · show prompterref07_text.l0 (k + 1) s _ _ _ = _
      rw [prompterref07_text.l0, if_pos (by omega), if_pos (by omega), hb, e1]
    refine Ev.step (f := fun k => prompterref07_text.j2 k s (i : Int) (bytesInt out) ((i + o : Nat) : Int) ((c.toNat : Nat) : Int) (decide (c.toNat < 32 ∨ 126 < c.toNat))) (fun k => ?_) ?_
    · show prompterref07_text.j1 (k + 1) s _ _ _ _ = _
      rw [prompterref07_text.j1, if_pos rfl, if_pos (by omega), if_pos (by omega), hb]
      by_cases h32 : c.toNat < 32
      · rw [if_pos (by omega), decide_eq_true (Or.inl h32)]
      · rw [if_neg (by omega)]
        congr 1
        exact decide_eq_decide.2 (by omega)
    rw [textGo, if_neg hq]
    -- a byte is taken in
    have push : ∀ (x : UInt8) (m : Nat) (at_ : Int), 1 ≤ m → at_ = ((i + o + m : Nat) : Int) → m ≤ (c :: cs).length →
        Ev (fun k => if ((bytesInt out).length : Int) = 4095 then ((prompterref07_wrong.f (i : Int) 2).bind fun q => (some (q.1, q.2.1, q.2.2.1, q.2.2.2.1, q.2.2.2.2.1, q.2.2.2.2.2.1, q.2.2.2.2.2.2))) else (if (bytesInt out).length < 140737488355328 then prompterref07_text.l0 k s (i : Int) (bytesInt out ++ [(x.toNat : Int)]) at_ else none))
          (stepR i (if out.length = 4095 then .bad 0 2 else textGo n ((c :: cs).drop m) (o + m) (out ++ [x]))) := by
      intro x m at_ hm hat hml
      have hsz := drop_len h hi
      rw [hlen]
      by_cases hfull : out.length = 4095
      · rw [if_pos hfull]
        refine Ev.congr (f := fun _ => some _) (fun k => ?_) (Ev.now _)
        rw [if_pos (by omega), wrong_is]
        simp [stepR]
      · rw [if_neg hfull]
        refine Ev.congr (f := fun k => prompterref07_text.l0 k s (i : Int) (bytesInt (out ++ [x])) ((i + (o + m) : Nat) : Int)) (fun k => ?_) ?_
        · rw [if_neg (by omega), if_pos (by omega), hsnoc, hat, Nat.add_assoc]
        · refine reftext_go s hs i n _ _ _ (by simp at hn ⊢; omega) ?_ (by omega) (by simp; omega)
          rw [← Nat.add_assoc, ← List.drop_drop, h]
    by_cases hbad : c.toNat < 32 ∨ 126 < c.toNat
    · rw [decide_eq_true hbad]
      refine Ev.step (f := fun _ => some _) (fun k => ?_) (Ev.now _)
      show prompterref07_text.j2 (k + 1) s _ _ _ _ _ = _
      rw [prompterref07_text.j2, if_pos rfl, wrong_is]
      simp only [chr, if_pos hbad, stepR]
      simp
    rw [decide_eq_false hbad]
    by_cases hesc : c.toNat = 92
    · have := esc_is s hs (i + o) c cs h hesc
      have w1 : wrap64 (((i + o : Nat) : Int) + 1) = ((i + o + 1 : Nat) : Int) := by rw [w64 (by omega) (by omega)]; rfl
      refine Ev.step (f := fun k => (prompterref07_escape.f k s ((i + o + 1 : Nat) : Int)).bind fun bt185 => (if bt185.2.2.2 = 0 then (if ((bytesInt out).length : Int) = 4095 then ((prompterref07_wrong.f (i : Int) 2).bind fun bt189 => (some (bt189.1, bt189.2.1, bt189.2.2.1, bt189.2.2.2.1, bt189.2.2.2.2.1, bt189.2.2.2.2.2.1, bt189.2.2.2.2.2.2))) else (if (bytesInt out).length < 140737488355328 then (prompterref07_text.l0 k s (i : Int) (bytesInt out ++ [bt185.1]) bt185.2.1) else (none))) else ((prompterref07_wrong.f bt185.2.2.1 bt185.2.2.2).bind fun bt199 => (some (bt199.1, bt199.2.1, bt199.2.2.1, bt199.2.2.2.1, bt199.2.2.2.2.1, bt199.2.2.2.2.2.1, bt199.2.2.2.2.2.2))))) (fun k => ?_) (Ev.bind this ?_)
      · show prompterref07_text.j2 (k + 1) s _ _ _ _ _ = _
        rw [prompterref07_text.j2, if_neg (by decide), if_pos (by omega), w1]
      generalize hch : chr (c :: cs) = q
      cases q with
      | error q =>
        obtain ⟨p, e⟩ := q
        have he := (chr_bad hch).1
        refine Ev.congr (f := fun _ => some _) (fun k => ?_) (Ev.now _)
        refine (if_neg (show ¬ (e : Int) = 0 by omega)).trans ?_
        simp only [escTold]
        rw [wrong_is]
        simp only [Option.bind_some, stepR]
        rw [show ((i + o : Nat) : Int) + (p : Int) = (i : Int) + ((o + p : Nat) : Int) by omega]
      | ok q =>
        obtain ⟨x, m⟩ := q
        obtain ⟨m1, m2⟩ := chr_ok hch
        refine Ev.congr (fun k => ?_) (push x m (((i + o : Nat) : Int) + (m : Int)) m1 (by omega) m2)
        exact if_pos rfl
    · have hch : chr (c :: cs) = .ok (c, 1) := by unfold chr; dsimp only; rw [if_neg hbad, if_pos hesc]
      rw [hch]
      refine Ev.step (fun k => ?_) (push c 1 (((i + o : Nat) : Int) + 1) (by omega) rfl (by simp))
      show prompterref07_text.j2 (k + 1) s _ _ _ _ _ = _
      rw [prompterref07_text.j2, if_neg (by decide), if_neg (by omega), w64 (by omega) (by omega)]
theorem reftext_is (s : ByteArray) (hs : s.size ≤ 16384) (i : Nat) (c : UInt8) (cs : List UInt8) (h : s.data.toList.drop i = c :: cs) : Ev (fun k => prompterref07_text.f k s (i : Int)) (stepR i (textGo (cs.length + 1) cs 1 [])) := by
  obtain ⟨hb, hlt, hd⟩ := bt_get h
  have := reftext_go s hs i (cs.length + 1) cs [] 1 (by omega) hd (by omega) (by simp)
  refine Ev.congr (fun k => ?_) this
  show prompterref07_text.f k s (i : Int) = _
  rw [prompterref07_text.f, w64 (by omega) (by omega)]
  rfl
end Go.Proofs.Ytlbchdalimngjaa.Lex
