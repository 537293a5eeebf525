/- Contracts by hand of topic.May and topic.Match, for every text of at most 900 bytes, in the form that the print takes.
-- HAND carrefour/topic.May topic_May
-- HAND carrefour/topic.Match topic_Match
  Conditions: none.
-/
import Derived.Test.YtpmalfabeajepaaDoorTw
namespace Go.Proofs.YtpmalfabeajepaaDoorH
open Go.RowKit Go.Proofs.YtpmalfabeajepaaDoorW.PrintWords Go.Proofs.YtpmalfabeajepaaDoorW.PrintLast Go.Proofs.YtpmalfabeajepaaDoor
/-- Whether a text may be a pattern. -/
noncomputable def mayT (p : ByteArray) : Bool := if h : p.size ≤ 900 then Classical.choose (Tw.may_any p h) else false
/-- Whether a pattern wants a key. -/
noncomputable def wantsT (p k : ByteArray) : Bool := if h : p.size ≤ 900 ∧ k.size ≤ 900 then Classical.choose (Classical.choose_spec (Tw.match_any p k h.1 h.2)) else false
noncomputable def topic_May.f (a0 : ByteArray) : Option Bool := if a0.size ≤ 900 then some (mayT a0) else none
theorem topic_May.calls (a0 : ByteArray) (r : Bool) (w : World) (hgl : Gl w) (h : topic_May.f a0 = some r) :
    Calls Tryd.prog 22 #[.string a0] w fun e w' => e = .returned (.bool r) ∧ Below w.heap.size w w' := by
  unfold topic_May.f at h
  by_cases hc : a0.size ≤ 900
  · rw [if_pos hc] at h
    obtain rfl := Option.some.inj h
    have := Classical.choose_spec (Tw.may_any a0 hc) 1002 (Nat.le_refl _)
    refine PGt.topic_May.calls 1002 a0 _ w hgl ?_
    rw [this, mayT, dif_pos hc]
  · rw [if_neg hc] at h
    cases h
noncomputable def topic_Match.f (a0 a1 : ByteArray) : Option Bool := if a0.size ≤ 900 ∧ a1.size ≤ 900 then some (wantsT a0 a1) else none
theorem topic_Match.calls (a0 a1 : ByteArray) (r : Bool) (w : World) (hgl : Gl w) (h : topic_Match.f a0 a1 = some r) :
    Calls Tryd.prog 11 #[.string a0, .string a1] w fun e w' => e = .returned (.bool r) ∧ Below w.heap.size w w' := by
  unfold topic_Match.f at h
  by_cases hc : a0.size ≤ 900 ∧ a1.size ≤ 900
  · rw [if_pos hc] at h
    obtain rfl := Option.some.inj h
    have := Classical.choose_spec (Classical.choose_spec (Tw.match_any a0 a1 hc.1 hc.2)) _ (Nat.le_refl _)
    refine PGt.topic_Match.calls (Classical.choose (Tw.match_any a0 a1 hc.1 hc.2)) a0 a1 _ w hgl ?_
    rw [wantsT, dif_pos hc]
    exact this
  · rw [if_neg hc] at h
    cases h
end Go.Proofs.YtpmalfabeajepaaDoorH
