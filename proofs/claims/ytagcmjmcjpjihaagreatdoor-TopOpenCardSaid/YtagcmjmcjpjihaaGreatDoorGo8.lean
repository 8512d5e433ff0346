/- Texts Str of this claim, laid together. -/
import Derived.WalkLawsBesides
namespace Go.Proofs.YtagcmjmcjpjihaaGreatDoor
theorem zF9 : ∀ a : List UInt8, Op.bytesLess a a = false
 | [] => rfl
 | a :: l => by simp [Op.bytesLess, zF9 l]
theorem zGq : ∀ a b c : List UInt8, Op.bytesLess a b = true → Op.bytesLess b c = true → Op.bytesLess a c = true
 | _, _, [] => fun _ h => by cases ‹List UInt8› <;> simp [Op.bytesLess] at h
 | [], _, _ :: _ => fun _ _ => rfl
 | _ :: _, [], _ => fun h _ => by simp [Op.bytesLess] at h
 | a :: x, b :: y, c :: z => fun h k => by
  simp only [Op.bytesLess, Bool.or_eq_true, Bool.and_eq_true, decide_eq_true_eq, beq_iff_eq] at *
  rcases h with h | ⟨rfl, h⟩ <;> rcases k with k | ⟨rfl, k⟩
  ·exact .inl (UInt8.lt_trans h k)
  ·exact .inl h
  ·exact .inl k
  ·exact .inr ⟨rfl, zGq x y z h k⟩
theorem zLA : ∀ a b : List UInt8, Op.bytesLess a b = true ∨ a = b ∨ Op.bytesLess b a = true
 | [], [] => .inr (.inl rfl)
 | [], _ :: _ => .inl rfl
 | _ :: _, [] => .inr (.inr rfl)
 | a :: x, b :: y => by
  simp only [Op.bytesLess, Bool.or_eq_true, Bool.and_eq_true, decide_eq_true_eq, beq_iff_eq]
  rcases Nat.lt_trichotomy a.toNat b.toNat with h | h | h
  ·exact .inl (.inl (UInt8.lt_iff_toNat_lt.2 h))
  ·have h := UInt8.toNat_inj.1 h
   subst h
   rcases zLA x y with h | h | h
   ·exact .inl (.inr ⟨rfl, h⟩)
   ·exact .inr (.inl (by rw [h]))
   ·exact .inr (.inr (.inr ⟨rfl, h⟩))
  ·exact .inr (.inr (.inl (UInt8.lt_iff_toNat_lt.2 h)))
theorem zQR (a b : List UInt8) (h : Op.bytesLess a b = true) : Op.bytesLess b a = false := by
 cases k : Op.bytesLess b a with
 | false => rfl
 | true => have := zGq a b a h k; rw [zF9] at this; cases this
theorem zIm : ∀ (a b : List UInt8), b ≠ [] → Op.bytesLess a (a ++ b) = true
 | [], b, h => by cases b with | nil => exact absurd rfl h | cons x y => rfl
 | x :: a, b, h => by simp [Op.bytesLess, zIm a b h]
theorem zBL {a b : ByteArray} (h : a.toList = b.toList) : a = b := by
 have : a.data.toList = b.data.toList := by rw [ByteArray.toList_eq, ByteArray.toList_eq] at h; exact h
 exact ByteArray.ext (Array.ext' this)
theorem toList_append (a b : ByteArray) : (a ++ b).toList = a.toList ++ b.toList := by
 rw [ByteArray.toList_eq, ByteArray.toList_eq, ByteArray.toList_eq, ByteArray.data_append, Array.toList_append]
def slt (a b : ByteArray) : Bool := Op.bytesLess a.toList b.toList
theorem zCl (a : ByteArray) : slt a a = false := zF9 _
theorem zBT {a b c : ByteArray} (h : slt a b = true) (k : slt b c = true) : slt a c = true := zGq _ _ _ h k
theorem zCc (a b : ByteArray) : slt a b = true ∨ a = b ∨ slt b a = true := (zLA a.toList b.toList).imp id (Or.imp zBL id)
theorem zBq {a b : ByteArray} (h : slt a b = true) : slt b a = false := zQR _ _ h
theorem zBi {a b : ByteArray} (h : slt a b = true) : a ≠ b := fun e => by rw [e, zCl] at h; cases h
theorem zDD {a b : ByteArray} (h : slt a b = false) (hne : a ≠ b) : slt b a = true := ((zCc a b).resolve_left (by simp [h])).resolve_left hne
theorem zFJ {a b c : ByteArray} (h : slt a b = false) (k : slt b c = false) : slt a c = false := by
 cases e : slt a c with
 | false => rfl
 | true =>
  rcases zCc a b with h1 | h1 | h1
  ·rw [h1] at h; cases h
  ·subst h1; rw [e] at k; cases k
  ·have := zBT h1 e; rw [this] at k; cases k
theorem zGR {a b c : ByteArray} (h : slt a b = true) (k : slt c b = false) : slt a c = true := by
 rcases zCc b c with h1 | h1 | h1
 ·exact zBT h h1
 ·rw [← h1]; exact h
 ·rw [h1] at k; cases k
theorem zGQ {a b c : ByteArray} (h : slt b a = false) (k : slt b c = true) : slt a c = true := by
 rcases zCc a b with h1 | h1 | h1
 ·exact zBT h1 k
 ·rw [h1]; exact k
 ·rw [h1] at h; cases h
def nul : ByteArray := ⟨#[0]⟩
theorem zHo : nul.toList = [0] := by rw [ByteArray.toList_eq]; rfl
theorem zEm (a : ByteArray) : slt a (a ++ nul) = true := by
 unfold slt; rw [toList_append]; exact zIm _ _ (by rw [zHo]; simp)
theorem zN4 : ∀ a b : List UInt8, Op.bytesLess b (a ++ [0]) = true → Op.bytesLess a b = false
 | [], [] => fun _ => rfl
 | [], b :: y => fun h => by
  cases y <;> simp [Op.bytesLess] at h
 | a :: x, [] => fun _ => rfl
 | a :: x, b :: y => fun h => by
  simp only [List.cons_append, Op.bytesLess, Bool.or_eq_true, Bool.and_eq_true, decide_eq_true_eq, beq_iff_eq] at h
  rcases h with h | ⟨rfl, h⟩
  ·have : ¬ a < b := fun k => by exact absurd (UInt8.lt_trans h k) (by simp)
   have hne : (a == b) = false := by rw [beq_eq_false_iff_ne]; rintro rfl; simp at h
   simp [Op.bytesLess, this, hne]
  ·simp [Op.bytesLess, zN4 x y h]
theorem zEc (a b : ByteArray) : slt b (a ++ nul) = !slt a b := by
 cases h : slt b (a ++ nul) with
 | true =>
  have : slt a b = false := zN4 a.toList b.toList (by have := h; unfold slt at this; rw [toList_append, zHo] at this; exact this)
  simp [this]
 | false =>
  rcases zCc a b with k | k | k
  ·simp [k]
  ·subst k; rw [zEm] at h; cases h
  ·rw [zBT k (zEm a)] at h; cases h
theorem zJm {α : Type} (p : α → Bool) (l : List α) (k : Nat) (h : k < l.length) : (l.take (k + 1)).all p = ((l.take k).all p && p l[k]) := by
 rw [List.take_succ_eq_append_getElem h, List.all_append]; simp
theorem zJS {α : Type} (p : α → Bool) (l : List α) (k : Nat) (h : k < l.length) : (l.take (k + 1)).any p = ((l.take k).any p || p l[k]) := by
 rw [List.take_succ_eq_append_getElem h, List.any_append]; simp
theorem zCY {α : Type} (p : α → Bool) (l : List α) (k : Nat) (h : k < l.length) (hp : p l[k] = false) : l.all p = false := by
 rw [List.all_eq_false]; exact ⟨l[k], List.getElem_mem h, by simp [hp]⟩
theorem zLZ {α : Type} (p : α → Bool) (l : List α) (k : Nat) (h : k < l.length) (hp : p l[k] = true) : l.any p = true :=
 List.any_eq_true.2 ⟨l[k], List.getElem_mem h, hp⟩
theorem zL6 {α : Type} {p : α → Bool} {l : List α} {k : Nat} (h : l.length ≤ k) (ha : (l.take k).all p = true) : l.all p = true := by
 rwa [List.take_of_length_le h] at ha
end Go.Proofs.YtagcmjmcjpjihaaGreatDoor
