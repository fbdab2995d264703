/- Proved here: TokenWords returns true for every text (no condition beyond the row's own size bound). -/
import Derived.Test.YtlbchdalimngjaaPTokenWordsx1
namespace Go.Proofs.Ytlbchdalimngjaa.Pure
open Go.RowKit Go.Proofs.Ytlbchdalimngjaa.PTokenWords Go.Proofs.YtlbchdalimngjaaW.PrintWords Go.Proofs.YtlbchdalimngjaaW.PrintLast

theorem ite_or (c : Prop) [Decidable c] (b : Bool) : (if c then some true else some b) = some (decide c || b) := by
  by_cases h : c <;> simp [h]

theorem among_l (x : ByteArray) (l : List ByteArray) (hl : l.length < 1000) : ∀ (d : Nat) (i : Nat) (k : Nat), i + d = l.length → d < k →
    prompterref07_Among.l0 k l x (i : Int) = some ((l.drop i).any fun y => decide (y.toList = x.toList)) := by
  intro d
  induction d with
  | zero =>
    intro i k hi hk
    obtain ⟨k, rfl⟩ : ∃ m, k = m + 1 := ⟨k - 1, by omega⟩
    simp only [prompterref07_Among.l0]
    rw [if_neg (by omega), List.drop_eq_nil_of_le (by omega)]
    rfl
  | succ d ih =>
    intro i k hi hk
    obtain ⟨k, rfl⟩ : ∃ m, k = m + 1 := ⟨k - 1, by omega⟩
    simp only [prompterref07_Among.l0]
    rw [if_pos (by omega), if_pos (by omega)]
    have hw : wrap64 ((i : Int) + 1) = ((i + 1 : Nat) : Int) := by unfold wrap64; omega
    have hlt : i < l.length := by omega
    have hrd : rdOf ByteArray.empty l (i : Int) = l[i] := by simp [rdOf, List.getD_eq_getElem?_getD, hlt]
    rw [hw, ih (i + 1) k (by omega) (by omega), hrd, List.drop_eq_getElem_cons hlt, List.any_cons, ite_or]

theorem keyword_any (x : ByteArray) (W : List ByteArray) (hW : prompterref07_Words.f = some W) (hW' : W.length = 28) :
    prompterref07_Keyword.f 40 x = some (W.any fun y => decide (y.toList = x.toList)) := by
  unfold prompterref07_Keyword.f
  rw [hW]
  simp only [Option.bind_some]
  have := among_l x W (by omega) 28 0 40 (by omega) (by omega)
  unfold prompterref07_Among.f
  rw [show ((0 : Nat) : Int) = 0 from rfl] at this
  rw [this]
  simp

theorem keyword_eq (x : ByteArray) : ∃ b, token_Keyword.f x = some b ∧ prompterref07_Keyword.f 40 x = some b := by
  refine ⟨_, ?_, keyword_any x _ rfl rfl⟩
  unfold token_Keyword.f
  simp only [ite_or]
  congr 1
  simp only [List.any_cons, List.any_nil]
  simp only [ByteArray.toList_eq]
  have e : ∀ l : List UInt8, decide (x.data.toList = l) = decide (l = x.data.toList) := fun l => by simp [eq_comm]
  simp only [e]

theorem TokenWords : prompterlaw07_TokenWords.Pure := by
  intro x _
  obtain ⟨b, h1, h2⟩ := keyword_eq x
  refine ⟨69, ?_⟩
  have h3 := prompterref07_Keyword.mono x
  have : prompterlaw07_TokenWords.f 69 x = ((token_Keyword.f x).bind fun t112 => ((prompterref07_Keyword.f 40 x).bind fun t113 => (if (t112 == t113) = true then (some true) else (some false)))) := by
    kernel_rfl
  rw [this, h1, h2]
  simp

end Go.Proofs.Ytlbchdalimngjaa.Pure
