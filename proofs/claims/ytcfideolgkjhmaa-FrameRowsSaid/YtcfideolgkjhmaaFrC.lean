/- Frames one behind the other: what All tells. -/
import Derived.Test.YtcfideolgkjhmaaFrB
namespace Go.Proofs.Ytcfideolgkjhmaa.FrC
open Go.RowKit Go.Proofs.Ytcfideolgkjhmaa.PGq Go.Proofs.YtcfideolgkjhmaaW.PrintWords Go.Proofs.YtcfideolgkjhmaaW.PrintLast Go.Proofs.Ytcfideolgkjhmaa.FrB

/-- One frame's bytes. -/
def one (f : S24) : List Int := fby f.f0 f.f1 f.f2
def mays (f : S24) : Bool := mayB f.f0 f.f1 f.f2
/-- The bytes of frames one behind the other. -/
def cat : List S24 → List Int
  | [] => []
  | f :: fs => one f ++ cat fs
theorem cat_app (a b : List S24) : cat (a ++ b) = cat a ++ cat b := by
  induction a with
  | nil => rfl
  | cons f fs ih => simp [cat, ih]
theorem cat_by {fs : List S24} (h : ∀ f ∈ fs, By f.f2) : By (cat fs) := by
  induction fs with
  | nil => intro y hy; simp [cat] at hy
  | cons f fs ih =>
    exact By.app (By.fby (h f (by simp))) (ih fun g hg => h g (by simp [hg]))
theorem one_len (f : S24) : (one f).length = f.f2.length + 8 := bytes_len _ _ _

theorem all_tells (R : List Int) (fs : List S24) : ∀ (P : List Int) (acc : List S24) (k : Nat), By (cat fs ++ R) → (P ++ (cat fs ++ R)).length < 1000000 → acc.length + fs.length < 1000 → (∀ f ∈ fs, mays f = true) →
    frame_All.l500 (k + 2 + fs.length) (P ++ (cat fs ++ R)) acc (P.length : Int) = frame_All.l500 (k + 2) (P ++ (cat fs ++ R)) (acc ++ fs) ((P.length + (cat fs).length : Nat) : Int) := by
  induction fs with
  | nil =>
    intro P acc k _ _ _ _
    simp [cat]
  | cons f fs ih =>
    intro P acc k hb hl ha hm
    have L1 := one_len f
    have hl2 := hl
    have cc : cat (f :: fs) ++ R = one f ++ (cat fs ++ R) := by simp [cat]
    rw [cc] at hb hl hl2 ⊢
    simp only [List.length_append] at hl2
    have go := ih (P ++ one f) (acc ++ [f]) k (hb.sub fun y hy => by simp only [List.mem_append] at hy ⊢; exact .inr hy) (by simp only [List.length_append]; omega) (by simp only [List.length_append, List.length_cons, List.length_nil] at ha ⊢; omega) (fun g hg => hm g (by simp [hg]))
    rw [List.append_assoc P] at go
    have e : k + 2 + (f :: fs).length = (k + 2 + fs.length) + 1 := by simp only [List.length_cons]; omega
    rw [e]
    have L2 : (P ++ (one f ++ (cat fs ++ R))).length = P.length + ((f.f2.length + 8) + ((cat fs).length + R.length)) := by simp only [List.length_append, L1]
    conv => lhs; simp only [frame_All.l500]
    rw [if_neg (by omega), if_pos (by omega), if_pos (by omega)]
    have d : (P ++ (one f ++ (cat fs ++ R))).drop ((P.length : Int)).toNat = one f ++ (cat fs ++ R) := by simp
    have hf := hm f (by simp)
    rw [d, show k + 2 + fs.length = (k + fs.length) + 2 by omega, next_spec (k + fs.length) hb (by simp only [List.length_append]; omega)]
    have nb : nextS (one f ++ (cat fs ++ R)) = (f.f0, f.f1, f.f2, 8 + (f.f2.length : Int), 0) := next_bytes (cat fs ++ R) hf
    rw [nb]
    simp only [Option.bind_some, if_true]
    have w : wrap64 ((P.length : Int) + (8 + (f.f2.length : Int))) = ((P ++ one f).length : Int) := by
      rw [List.length_append, L1]
      unfold wrap64
      omega
    rw [if_pos (by simp only [List.length_cons] at ha; omega), w, show k + fs.length + 2 = k + 2 + fs.length by omega, show (⟨f.f0, f.f1, f.f2⟩ : S24) = f from rfl, go]
    simp only [List.append_assoc, List.singleton_append, List.length_append, cat, Nat.add_assoc]

/-- All over whole frames and what is behind them. -/
theorem all_is (R : List Int) (fs : List S24) (k : Nat) (hb : By (cat fs ++ R)) (hl : (cat fs ++ R).length < 1000000) (ha : fs.length < 1000) (hm : ∀ f ∈ fs, mays f = true)
    (hR : R ≠ [] → (nextS R).2.2.2.2 ≠ 0) :
    frame_All.f (k + 3 + fs.length) (cat fs ++ R) = some (fs, ((cat fs).length : Int), if R = [] then 0 else (nextS R).2.2.2.2) := by
  unfold frame_All.f
  have go := all_tells R fs [] [] (k + 1) hb (by simpa using hl) (by simpa using ha) hm
  simp only [List.nil_append, List.length_nil, Nat.zero_add] at go
  rw [show k + 3 + fs.length = k + 1 + 2 + fs.length by omega]
  rw [show (0 : Int) = ((0 : Nat) : Int) from rfl, go]
  simp only [frame_All.l500]
  by_cases h : R = []
  · subst h
    rw [if_pos (by simp), if_pos rfl]
    rfl
  · have L : 0 < R.length := List.length_pos_iff.mpr h
    rw [if_neg (by simp only [List.length_append]; omega), if_neg h, if_pos (by omega), if_pos (by simp only [List.length_append]; omega)]
    have d : (cat fs ++ R).drop (((cat fs).length : Int)).toNat = R := by simp
    rw [d, next_spec k (hb.sub fun y hy => by simp only [List.mem_append]; exact .inr hy) (by simp only [List.length_append] at hl; omega)]
    simp only [Option.bind_some]
    rw [if_neg (hR h)]

end Go.Proofs.Ytcfideolgkjhmaa.FrC
