/-
  Sums of rows of whole numbers among floats: their order, their turns.
  Conditions: none; plain theorems.
-/
import Derived.Test.YtmolpckfemcieaaZq
import Derived.Test.YtmolpckfemcieaaA6
import Derived.Test.YtmolpckfemcieaaW6
namespace Go.Proofs.Ytmolpckfemcieaa
open Go.RowKit Go.Proofs.YtmolpckfemcieaaFl Go.Proofs.YtmolpckfemcieaaIv

def zsum (z : Int × Int) (l : List (Int × Int)) : Int × Int := l.foldl zadd z
theorem ic_csum {B : Nat} : ∀ (l : List (Nat × Nat)) (zs : List (Int × Int)) (c : C) (z : Int × Int) (A : Nat), l.length = zs.length → (∀ (i : Nat) (p : Nat × Nat) (q : Int × Int), l[i]? = some p → zs[i]? = some q → IC (crd p) q ∧ zbd B q) → IC c z → zbd A z → A + l.length * B < 9007199254740992 →
    IC (csum c l) (zsum z zs)
  | [], [], c, z, A, _, _, hc, _, _ => hc
  | p :: l, q :: zs, c, z, A, hl, h, hc, hz, hA => by
    obtain ⟨h1, h2⟩ := h 0 p q rfl rfl
    have hb := zbd_add hz h2
    have e : (p :: l).length * B = B + l.length * B := by rw [List.length_cons, Nat.add_mul, Nat.one_mul, Nat.add_comm]
    rw [e] at hA
    exact ic_csum l zs (cadd c (crd p)) (zadd z q) (A + B) (by simpa using hl) (fun i p' q' hp hq => h (i + 1) p' q' (by simpa using hp) (by simpa using hq)) (ic_add hc h1 hb (by omega)) hb (by omega)
  | [], _ :: _, _, _, _, hl, _, _, _, _ => by simp at hl
  | _ :: _, [], _, _, _, hl, _, _, _, _ => by simp at hl
theorem zadd_comm3 (a b c : Int × Int) : zadd (zadd a b) c = zadd (zadd a c) b := by
  unfold zadd
  exact Prod.ext (by show a.1 + b.1 + c.1 = a.1 + c.1 + b.1; omega) (by show a.2 + b.2 + c.2 = a.2 + c.2 + b.2; omega)
theorem zsum_snoc (z x : Int × Int) (l : List (Int × Int)) : zsum z (l ++ [x]) = zadd (zsum z l) x := by
  unfold zsum
  rw [List.foldl_append]
  rfl
theorem zsum_cons (z x : Int × Int) : ∀ l, zsum (zadd z x) l = zadd (zsum z l) x := by
  intro l
  induction l generalizing z with
  | nil => rfl
  | cons y l ih =>
    show zsum (zadd (zadd z x) y) l = zadd (zsum (zadd z y) l) x
    rw [zadd_comm3, ih]
theorem zsum_reverse (z : Int × Int) (l : List (Int × Int)) : zsum z l.reverse = zsum z l := by
  induction l generalizing z with
  | nil => rfl
  | cons y l ih =>
    rw [List.reverse_cons, zsum_snoc, ih]
    show _ = zsum (zadd z y) l
    rw [zsum_cons]
theorem zspin_add (a b : Int × Int) (k : Int) : zspin (zadd a b) k = zadd (zspin a k) (zspin b k) := by
  unfold zspin zadd
  split
  · rfl
  · split
    · exact Prod.ext (by show -(a.1 + b.1) = -a.1 + -b.1; omega) (by show -(a.2 + b.2) = -a.2 + -b.2; omega)
    · split
      · exact Prod.ext (by show -(a.2 + b.2) = -a.2 + -b.2; omega) rfl
      · exact Prod.ext rfl (by show -(a.1 + b.1) = -a.1 + -b.1; omega)
theorem zsum_spin (z : Int × Int) (l : List (Int × Int)) (k : Int) : zsum (zspin z k) (l.map fun q => zspin q k) = zspin (zsum z l) k := by
  induction l generalizing z with
  | nil => rfl
  | cons y l ih =>
    show zsum (zadd (zspin z k) (zspin y k)) (l.map fun q => zspin q k) = zspin (zsum (zadd z y) l) k
    rw [← zspin_add, ih]

/-- A number brought to 0 to 99,999. -/
def big (z : Int) : Int := wrap64 ((IntKind.u64.wrap z).tmod 100000)
theorem big_bd (m : Int) : 0 ≤ big m ∧ big m ≤ 99999 := by
  unfold big
  rw [IntKind.wrap_u64]
  unfold wrap64
  have : 0 ≤ m % 18446744073709551616 := Int.emod_nonneg _ (by omega)
  rw [Int.tmod_eq_emod_of_nonneg this]
  omega
def zf (l : List Int) (i : Nat) : Nat × Nat := (floatOfInt .f64 (big (l.getD i 0)), floatOfInt .f64 (i : Int))
def zi (l : List Int) (i : Nat) : Int × Int := (big (l.getD i 0), (i : Int))
theorem zf_ic (l : List Int) (i : Nat) (hi : i ≤ 40) : IC (crd (zf l i)) (zi l i) ∧ zbd 100000 (zi l i) := by
  have h := big_bd (l.getD i 0)
  have hb : zbd 100000 (zi l i) := ⟨by show (big (l.getD i 0)).natAbs ≤ 100000; omega, by show ((i : Int)).natAbs ≤ 100000; omega⟩
  exact ⟨⟨io_of (iv_of_int _ (Nat.lt_of_le_of_lt hb.1 (by omega))), io_of (iv_of_int _ (Nat.lt_of_le_of_lt hb.2 (by omega)))⟩, hb⟩
def zfs (l : List Int) (n : Nat) : List (Nat × Nat) := (List.range n).map (zf l)
def zis (l : List Int) (n : Nat) : List (Int × Int) := (List.range n).map (zi l)
theorem zfs_succ (l : List Int) (n : Nat) : zfs l (n + 1) = zfs l n ++ [zf l n] := by
  unfold zfs
  rw [List.range_succ, List.map_append]
  rfl
theorem zfs_length (l : List Int) (n : Nat) : (zfs l n).length = n := by
  unfold zfs
  simp
theorem ic_zero : IC (crd (0, 0)) (0, 0) := by
  have h := iv_of_int 0 (by omega)
  have e : floatOfInt .f64 0 = 0 := by kernel_rfl
  rw [e] at h
  exact ⟨io_of h, io_of h⟩
theorem zbd_zero : zbd 0 (0, 0) := ⟨Nat.le_refl _, Nat.le_refl _⟩
theorem sums_a (l : List Int) (n : Nat) (hn : n ≤ 40) : IC (csum (crd (0, 0)) (zfs l n)) (zsum (0, 0) (zis l n)) := by
  refine ic_csum (B := 100000) (zfs l n) (zis l n) _ _ 0 (by unfold zfs zis; simp) ?_ ic_zero zbd_zero (by rw [zfs_length]; omega)
  intro i p q hp hq
  unfold zfs at hp
  unfold zis at hq
  rw [List.getElem?_map, Option.map_eq_some_iff] at hp hq
  obtain ⟨j, hj, rfl⟩ := hp
  obtain ⟨j', hj', rfl⟩ := hq
  rw [hj] at hj'
  obtain rfl := Option.some.inj hj'
  have : j < n := by
    have := List.mem_of_getElem? hj
    exact List.mem_range.mp this
  exact zf_ic l j (by omega)
theorem sums_b (l : List Int) (n : Nat) (hn : n ≤ 40) : IC (csum (crd (0, 0)) (zfs l n).reverse) (zsum (0, 0) (zis l n)) := by
  rw [← zsum_reverse]
  refine ic_csum (B := 100000) (zfs l n).reverse (zis l n).reverse _ _ 0 (by unfold zfs zis; simp) ?_ ic_zero zbd_zero (by rw [List.length_reverse, zfs_length]; omega)
  intro i p q hp hq
  unfold zfs at hp
  unfold zis at hq
  rw [← List.map_reverse, List.getElem?_map, Option.map_eq_some_iff] at hp hq
  obtain ⟨j, hj, rfl⟩ := hp
  obtain ⟨j', hj', rfl⟩ := hq
  rw [hj] at hj'
  obtain rfl := Option.some.inj hj'
  have : j < n := by
    have := List.mem_of_getElem? hj
    exact List.mem_range.mp (List.mem_reverse.mp this)
  exact zf_ic l j (by omega)
theorem sums_c (l : List Int) (n : Nat) (hn : n ≤ 40) (k : Int) : IC (csum (crd (0, 0)) ((zfs l n).map fun p => spin p k)) (zspin (zsum (0, 0) (zis l n)) k) := by
  have h0 : ((0, 0) : Int × Int) = zspin (0, 0) k := by
    unfold zspin
    repeat' split
    all_goals rfl
  have e := zsum_spin (0, 0) (zis l n) k
  rw [← h0] at e
  rw [← e]
  refine ic_csum (B := 100000) ((zfs l n).map fun p => spin p k) ((zis l n).map fun q => zspin q k) _ _ 0 (by unfold zfs zis; simp) ?_ ic_zero zbd_zero (by rw [List.length_map, zfs_length]; omega)
  intro i p q hp hq
  unfold zfs at hp
  unfold zis at hq
  rw [List.map_map, List.getElem?_map, Option.map_eq_some_iff] at hp hq
  obtain ⟨j, hj, rfl⟩ := hp
  obtain ⟨j', hj', rfl⟩ := hq
  rw [hj] at hj'
  obtain rfl := Option.some.inj hj'
  have : j < n := by
    have := List.mem_of_getElem? hj
    exact List.mem_range.mp this
  obtain ⟨h1, h2⟩ := zf_ic l j (by omega)
  refine ⟨?_, zbd_spin h2 k⟩
  show IC (crd (spin (zf l j) k)) (zspin (zi l j) k)
  rw [crd_spin]
  exact ic_spin h1 k

/-- What the law asks, of the sums. -/
theorem sums_eq {l : List Int} {n : Nat} (hn : n ≤ 40) {k : Int} {a b c : Nat × Nat} (ha : crd a = csum (crd (0, 0)) (zfs l n)) (hb : crd b = csum (crd (0, 0)) (zfs l n).reverse) (hc : crd c = csum (crd (0, 0)) ((zfs l n).map fun p => spin p k)) :
    (FloatKind.f64.format.order a.1 b.1 = some .eq ∧ FloatKind.f64.format.order a.2 b.2 = some .eq) ∧ FloatKind.f64.format.order c.1 (spin a k).1 = some .eq ∧ FloatKind.f64.format.order c.2 (spin a k).2 = some .eq := by
  have ia := sums_a l n hn
  have ib := sums_b l n hn
  have ic := sums_c l n hn k
  rw [← ha] at ia
  rw [← hb] at ib
  rw [← hc] at ic
  refine ⟨ic_eq ia ib, ?_⟩
  have := ic_spin ia k
  rw [← crd_spin] at this
  exact ic_eq ic this
end Go.Proofs.Ytmolpckfemcieaa
