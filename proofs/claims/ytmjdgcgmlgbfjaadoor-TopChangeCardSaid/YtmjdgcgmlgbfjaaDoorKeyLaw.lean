/- Laws of rows' keys: which are alike, how they rise. No program. -/
import Derived.Test.YtmjdgcgmlgbfjaaDoorStr
import Derived.Test.YtmjdgcgmlgbfjaaDoorRow2
set_option linter.unusedVariables false
set_option linter.unusedSimpArgs false
namespace Go.Proofs.YtmjdgcgmlgbfjaaDoor
open Go.RowKit
theorem bl_cons (x y : UInt8) (s t : List UInt8) : Op.bytesLess (x :: s) (y :: t) = (decide (x < y) || (x == y && Op.bytesLess s t)) := rfl
theorem bl_same (p s t : List UInt8) : Op.bytesLess (p ++ s) (p ++ t) = Op.bytesLess s t := by
  induction p with
  | nil => rfl
  | cons x p ih =>
    rw [List.cons_append, List.cons_append, bl_cons, ih]
    have : ¬ x < x := fun h => absurd h (by simp)
    simp
theorem u8_lt {x y : UInt8} : x < y ↔ x.toNat < y.toNat := UInt8.lt_iff_toNat_lt
theorem bl_digit (i j : Nat) (hi : i < 10) (hj : j < 10) (s t : List UInt8) : Op.bytesLess (d8 i :: s) (d8 j :: t) = (decide (i < j) || (decide (i = j) && Op.bytesLess s t)) := by
  rw [bl_cons]
  have e1 : decide (d8 i < d8 j) = decide (i < j) := by
    rw [Bool.eq_iff_iff, decide_eq_true_eq, decide_eq_true_eq, u8_lt, d8_toNat i hi, d8_toNat j hj]; omega
  have e2 : (d8 i == d8 j) = decide (i = j) := by
    rw [Bool.eq_iff_iff, beq_iff_eq, decide_eq_true_eq]
    constructor
    · intro h
      have := congrArg UInt8.toNat h
      rw [d8_toNat i hi, d8_toNat j hj] at this; omega
    · rintro rfl; rfl
  rw [e1, e2]
theorem lex {A A' n m : Nat} {P : Prop} (hlt : A < A' → n < m) (hgt : A' < A → ¬ n < m) (heq : A = A' → (P ↔ n < m)) : (A < A' ∨ A = A' ∧ P) ↔ n < m := by
  rcases Nat.lt_trichotomy A A' with h | h | h
  · exact ⟨fun _ => hlt h, fun _ => .inl h⟩
  · exact ⟨fun h' => h'.elim (fun h' => absurd h' (by omega)) (fun h' => (heq h).1 h'.2), fun h' => .inr ⟨h, (heq h).2 h'⟩⟩
  · exact ⟨fun h' => h'.elim (fun h' => absurd h' (by omega)) (fun h' => absurd h'.1 (by omega)), fun h' => absurd h' (hgt h)⟩
theorem digits6 (n : Nat) (h : n < 1000000) : n = ((((n / 100000 % 10 * 10 + n / 10000 % 10) * 10 + n / 1000 % 10) * 10 + n / 100 % 10) * 10 + n / 10 % 10) * 10 + n % 10 := by omega
theorem bl_six (n m : Nat) (hn : n < 1000000) (hm : m < 1000000) : Op.bytesLess (esix n) (esix m) = decide (n < m) := by
  unfold esix
  have h1 := digits6 n hn
  have h2 := digits6 m hm
  have a0 : n / 100000 % 10 < 10 := by omega
  have a1 : n / 10000 % 10 < 10 := by omega
  have a2 : n / 1000 % 10 < 10 := by omega
  have a3 : n / 100 % 10 < 10 := by omega
  have a4 : n / 10 % 10 < 10 := by omega
  have a5 : n % 10 < 10 := by omega
  have b0 : m / 100000 % 10 < 10 := by omega
  have b1 : m / 10000 % 10 < 10 := by omega
  have b2 : m / 1000 % 10 < 10 := by omega
  have b3 : m / 100 % 10 < 10 := by omega
  have b4 : m / 10 % 10 < 10 := by omega
  have b5 : m % 10 < 10 := by omega
  rw [bl_digit _ _ a0 b0, bl_digit _ _ a1 b1, bl_digit _ _ a2 b2, bl_digit _ _ a3 b3, bl_digit _ _ a4 b4, bl_digit _ _ a5 b5]
  rw [show Op.bytesLess [] [] = false from rfl, Bool.and_false, Bool.or_false, Bool.eq_iff_iff]
  simp only [Bool.or_eq_true, Bool.and_eq_true, decide_eq_true_eq]
  generalize n / 100000 % 10 = x0 at *
  generalize n / 10000 % 10 = x1 at *
  generalize n / 1000 % 10 = x2 at *
  generalize n / 100 % 10 = x3 at *
  generalize n / 10 % 10 = x4 at *
  generalize n % 10 = x5 at *
  generalize m / 100000 % 10 = y0 at *
  generalize m / 10000 % 10 = y1 at *
  generalize m / 1000 % 10 = y2 at *
  generalize m / 100 % 10 = y3 at *
  generalize m / 10 % 10 = y4 at *
  generalize m % 10 = y5 at *
  refine lex (fun h => by omega) (fun h => by omega) fun h0 => ?_
  refine lex (fun h => by omega) (fun h => by omega) fun h1 => ?_
  refine lex (fun h => by omega) (fun h => by omega) fun h2 => ?_
  refine lex (fun h => by omega) (fun h => by omega) fun h3 => ?_
  refine lex (fun h => by omega) (fun h => by omega) fun h4 => ?_
  omega
theorem six_inj {n m : Nat} (hn : n < 1000000) (hm : m < 1000000) (h : six n = six m) : n = m := by
  have h1 := bl_six n m hn hm
  have h2 := bl_six m n hm hn
  have e : esix n = esix m := by
    have := congrArg (fun x => x.data.toList) h
    simpa [six, Nat.mod_eq_of_lt hn, Nat.mod_eq_of_lt hm] using this
  rw [e, bl_irrefl] at h1
  rw [e, bl_irrefl] at h2
  have := of_decide_eq_false h1.symm
  have := of_decide_eq_false h2.symm
  omega
def tabB (a : ByteArray) : ByteArray := tB ++ slash ++ a
def queB (a : ByteArray) : ByteArray := qB ++ slash ++ a
def msgB (q : ByteArray) (n : Nat) : ByteArray := mB ++ slash ++ (q ++ slash ++ six n)
theorem tab_ok {a : ByteArray} (h : NameOk a) : KeyOk (tabB a) := .inl ⟨a, h, .inl rfl⟩
theorem que_ok {a : ByteArray} (h : NameOk a) : KeyOk (queB a) := .inl ⟨a, h, .inr rfl⟩
theorem msg_ok {a : ByteArray} (h : NameOk a) {n : Nat} (hn : n < 1000000) : KeyOk (msgB a n) := .inr ⟨a, n, h, hn, rfl⟩
theorem msg_inj {a b : ByteArray} (ha : NameOk a) (hb : NameOk b) {n m : Nat} (hn : n < 1000000) (hm : m < 1000000) (h : msgB a n = msgB b m) : a = b ∧ n = m := by
  have h1 := congrArg (fun x => (cutB x slash).2.1) h
  dsimp only [msgB] at h1
  rw [cutB_hit mB _ (by decide), cutB_hit mB _ (by decide)] at h1
  dsimp only at h1
  have h2 := congrArg (fun x => cutB x slash) h1
  rw [cutB_hit a _ (name_noslash ha), cutB_hit b _ (name_noslash hb)] at h2
  injection h2 with h3 h4
  injection h4 with h4 _
  exact ⟨h3, six_inj hn hm h4⟩
theorem tab_inj {a b : ByteArray} (h : tabB a = tabB b) : a = b := by
  have h1 := congrArg (fun x => (cutB x slash).2.1) h
  dsimp only [tabB] at h1
  rw [cutB_hit tB _ (by decide), cutB_hit tB _ (by decide)] at h1
  exact h1
theorem tab_que (a b : ByteArray) : tabB a ≠ queB b := fun h => by
  have h1 := congrArg (fun x => (cutB x slash).1) h
  dsimp only [tabB, queB] at h1
  rw [cutB_hit tB _ (by decide), cutB_hit qB _ (by decide)] at h1
  have h2 : tB = qB := h1
  exact absurd h2 (by decide)
/-- What lies from p/ on and below p0. -/
theorem between (p s : List UInt8) : (Op.bytesLess s (p ++ [47]) = false ∧ Op.bytesLess s (p ++ [48]) = true) ↔ ∃ r, s = p ++ 47 :: r := by
  induction p generalizing s with
  | nil =>
    cases s with
    | nil => simp [Op.bytesLess]
    | cons x s =>
      rw [List.nil_append, List.nil_append, bl_cons, bl_cons, show Op.bytesLess s [] = false from by cases s <;> rfl, Bool.and_false, Bool.or_false, Bool.and_false, Bool.or_false, decide_eq_false_iff_not, decide_eq_true_eq, u8_lt, u8_lt]
      rw [show UInt8.toNat 47 = 47 from rfl, show UInt8.toNat 48 = 48 from rfl]
      constructor
      · intro h
        have : x.toNat = 47 := by omega
        exact ⟨s, by rw [show x = 47 from UInt8.toNat_inj.1 this]; rfl⟩
      · rintro ⟨r, h⟩
        injection h with h _
        subst h
        decide
  | cons y p ih =>
    cases s with
    | nil => simp [Op.bytesLess]
    | cons x s =>
      rw [List.cons_append, List.cons_append, bl_cons, bl_cons]
      by_cases h1 : x < y
      · have h2 : x ≠ y := fun e => by rw [e] at h1; exact absurd h1 (by simp)
        simp [h1, h2]
      · by_cases h2 : x = y
        · subst h2
          have := ih s
          simp [this]
        · have h3 : (x == y) = false := by simpa using h2
          simp [h1, h2]
theorem has_msgs (a k : ByteArray) : (!slt k (mB ++ slash ++ a ++ slash) && (((mB ++ slash ++ a ++ ⟨#[48]⟩) : ByteArray).toList.isEmpty || slt k (mB ++ slash ++ a ++ ⟨#[48]⟩))) = true ↔ ∃ r, k.data.toList = 109 :: 47 :: (a.data.toList ++ 47 :: r) := by
  have e1 : (mB ++ slash ++ a ++ slash).toList = (109 :: 47 :: a.data.toList) ++ [47] := by rw [ByteArray.toList_eq, app_data, app_data, app_data]; rfl
  have e2 : ((mB ++ slash ++ a ++ ⟨#[48]⟩) : ByteArray).toList = (109 :: 47 :: a.data.toList) ++ [48] := by rw [ByteArray.toList_eq, app_data, app_data, app_data]; rfl
  have := between (109 :: 47 :: a.data.toList) k.toList
  unfold slt
  rw [e1, e2, Bool.and_eq_true, Bool.not_eq_true', show ((109 :: 47 :: a.data.toList) ++ [(48 : UInt8)]).isEmpty = false from rfl, Bool.false_or, this, ByteArray.toList_eq]
  rfl
theorem has_msg {a b : ByteArray} (ha : NameOk a) (hb : NameOk b) (m : Nat) : (∃ r, (msgB b m).data.toList = 109 :: 47 :: (a.data.toList ++ 47 :: r)) ↔ a = b := by
  have e : (msgB b m).data.toList = 109 :: 47 :: (b.data.toList ++ 47 :: esix (m % 1000000)) := by
    unfold msgB
    rw [app_data, app_data, app_data, app_data]; simp only [List.append_assoc]; rfl
  rw [e]
  constructor
  · rintro ⟨r, h⟩
    injection h with _ h
    injection h with _ h
    have h1 := cut_hit 47 a.data.toList r (name_noslash ha)
    rw [← h, cut_hit 47 _ _ (name_noslash hb)] at h1
    injection h1 with h1 _
    exact ba_ext h1.symm
  · rintro rfl
    exact ⟨_, rfl⟩
theorem has_tab (a b : ByteArray) : ¬ ∃ r, (tabB b).data.toList = 109 :: 47 :: (a.data.toList ++ 47 :: r) := by
  rintro ⟨r, h⟩
  unfold tabB at h
  rw [app_data, app_data] at h
  injection h with h _
  exact absurd h (by decide)
theorem has_que (a b : ByteArray) : ¬ ∃ r, (queB b).data.toList = 109 :: 47 :: (a.data.toList ++ 47 :: r) := by
  rintro ⟨r, h⟩
  unfold queB at h
  rw [app_data, app_data] at h
  injection h with h _
  exact absurd h (by decide)
theorem slt_msg (a : ByteArray) (n m : Nat) (hn : n < 1000000) (hm : m < 1000000) : slt (msgB a n) (msgB a m) = decide (n < m) := by
  have e : ∀ n, n < 1000000 → (msgB a n).toList = (109 :: 47 :: (a.data.toList ++ [47])) ++ esix n := fun n hn => by
    unfold msgB
    rw [ByteArray.toList_eq, app_data, app_data, app_data, app_data, show (six n).data.toList = esix (n % 1000000) from rfl, Nat.mod_eq_of_lt hn]; rfl
  unfold slt
  rw [e n hn, e m hm, bl_same, bl_six n m hn hm]
end Go.Proofs.YtmjdgcgmlgbfjaaDoor
