/- Texts KeyLaw, Tree, Row6, KeyC, Row7, Change, Change2 of this claim, laid together. -/
import Derived.Test.YtpdnlgopbnkdhaaDoorGLogSaysProof2
import Derived.Test.YtpdnlgopbnkdhaaDoorGLogSaysProof4
import Derived.WalkSpells
import Derived.WalkLawsBesides
set_option linter.unusedVariables false
set_option linter.unusedSimpArgs false
namespace Go.Proofs.YtpdnlgopbnkdhaaDoor
open Go.RowKit
theorem bl_cons (x y : UInt8) (s t : List UInt8) : Op.bytesLess (x :: s) (y :: t) = (decide (x < y) || (x == y && Op.bytesLess s t)) := rfl
theorem bl_same (p s t : List UInt8) : Op.bytesLess (p ++ s) (p ++ t) = Op.bytesLess s t := by
  induction p with
  | nil => rfl
  | cons x p ih =>
    rw [List.cons_append, List.cons_append, bl_cons, ih]
    have : ¬ x < x := fun h => absurd h (by simp)
    simp
theorem u8_lt {x y : UInt8} : x < y ↔ x.toNat < y.toNat := UInt8.lt_iff_toNat_lt
theorem bl_digit (i j : Nat) (hi : i < 10) (hj : j < 10) (s t : List UInt8) : Op.bytesLess (d8 i :: s) (d8 j :: t) = (decide (i < j) || (decide (i = j) && Op.bytesLess s t)) := by
  rw [bl_cons]
  have e1 : decide (d8 i < d8 j) = decide (i < j) := by
    rw [Bool.eq_iff_iff, decide_eq_true_eq, decide_eq_true_eq, u8_lt, d8_toNat i hi, d8_toNat j hj]; omega
  have e2 : (d8 i == d8 j) = decide (i = j) := by
    rw [Bool.eq_iff_iff, beq_iff_eq, decide_eq_true_eq]
    constructor
    · intro h
      have := congrArg UInt8.toNat h
      rw [d8_toNat i hi, d8_toNat j hj] at this; omega
    · rintro rfl; rfl
  rw [e1, e2]
theorem lex {A A' n m : Nat} {P : Prop} (hlt : A < A' → n < m) (hgt : A' < A → ¬ n < m) (heq : A = A' → (P ↔ n < m)) : (A < A' ∨ A = A' ∧ P) ↔ n < m := by
  rcases Nat.lt_trichotomy A A' with h | h | h
  · exact ⟨fun _ => hlt h, fun _ => .inl h⟩
  · exact ⟨fun h' => h'.elim (fun h' => absurd h' (by omega)) (fun h' => (heq h).1 h'.2), fun h' => .inr ⟨h, (heq h).2 h'⟩⟩
  · exact ⟨fun h' => h'.elim (fun h' => absurd h' (by omega)) (fun h' => absurd h'.1 (by omega)), fun h' => absurd h' (hgt h)⟩
theorem digits6 (n : Nat) (h : n < 1000000) : n = ((((n / 100000 % 10 * 10 + n / 10000 % 10) * 10 + n / 1000 % 10) * 10 + n / 100 % 10) * 10 + n / 10 % 10) * 10 + n % 10 := by omega
theorem bl_six (n m : Nat) (hn : n < 1000000) (hm : m < 1000000) : Op.bytesLess (esix n) (esix m) = decide (n < m) := by
  unfold esix
  have h1 := digits6 n hn
  have h2 := digits6 m hm
  have a0 : n / 100000 % 10 < 10 := by omega
  have a1 : n / 10000 % 10 < 10 := by omega
  have a2 : n / 1000 % 10 < 10 := by omega
  have a3 : n / 100 % 10 < 10 := by omega
  have a4 : n / 10 % 10 < 10 := by omega
  have a5 : n % 10 < 10 := by omega
  have b0 : m / 100000 % 10 < 10 := by omega
  have b1 : m / 10000 % 10 < 10 := by omega
  have b2 : m / 1000 % 10 < 10 := by omega
  have b3 : m / 100 % 10 < 10 := by omega
  have b4 : m / 10 % 10 < 10 := by omega
  have b5 : m % 10 < 10 := by omega
  rw [bl_digit _ _ a0 b0, bl_digit _ _ a1 b1, bl_digit _ _ a2 b2, bl_digit _ _ a3 b3, bl_digit _ _ a4 b4, bl_digit _ _ a5 b5]
  rw [show Op.bytesLess [] [] = false from rfl, Bool.and_false, Bool.or_false, Bool.eq_iff_iff]
  simp only [Bool.or_eq_true, Bool.and_eq_true, decide_eq_true_eq]
  generalize n / 100000 % 10 = x0 at *
  generalize n / 10000 % 10 = x1 at *
  generalize n / 1000 % 10 = x2 at *
  generalize n / 100 % 10 = x3 at *
  generalize n / 10 % 10 = x4 at *
  generalize n % 10 = x5 at *
  generalize m / 100000 % 10 = y0 at *
  generalize m / 10000 % 10 = y1 at *
  generalize m / 1000 % 10 = y2 at *
  generalize m / 100 % 10 = y3 at *
  generalize m / 10 % 10 = y4 at *
  generalize m % 10 = y5 at *
  refine lex (fun h => by omega) (fun h => by omega) fun h0 => ?_
  refine lex (fun h => by omega) (fun h => by omega) fun h1 => ?_
  refine lex (fun h => by omega) (fun h => by omega) fun h2 => ?_
  refine lex (fun h => by omega) (fun h => by omega) fun h3 => ?_
  refine lex (fun h => by omega) (fun h => by omega) fun h4 => ?_
  omega
theorem six_inj {n m : Nat} (hn : n < 1000000) (hm : m < 1000000) (h : six n = six m) : n = m := by
  have h1 := bl_six n m hn hm
  have h2 := bl_six m n hm hn
  have e : esix n = esix m := by
    have := congrArg (fun x => x.data.toList) h
    simpa [six, Nat.mod_eq_of_lt hn, Nat.mod_eq_of_lt hm] using this
  rw [e, bl_irrefl] at h1
  rw [e, bl_irrefl] at h2
  have := of_decide_eq_false h1.symm
  have := of_decide_eq_false h2.symm
  omega
def tabB (a : ByteArray) : ByteArray := tB ++ slash ++ a
def queB (a : ByteArray) : ByteArray := qB ++ slash ++ a
def msgB (q : ByteArray) (n : Nat) : ByteArray := mB ++ slash ++ (q ++ slash ++ six n)
theorem tab_ok {a : ByteArray} (h : NameOk a) : KeyOk (tabB a) := .inl ⟨a, h, .inl rfl⟩
theorem que_ok {a : ByteArray} (h : NameOk a) : KeyOk (queB a) := .inl ⟨a, h, .inr rfl⟩
theorem msg_ok {a : ByteArray} (h : NameOk a) {n : Nat} (hn : n < 1000000) : KeyOk (msgB a n) := .inr ⟨a, n, h, hn, rfl⟩
theorem msg_inj {a b : ByteArray} (ha : NameOk a) (hb : NameOk b) {n m : Nat} (hn : n < 1000000) (hm : m < 1000000) (h : msgB a n = msgB b m) : a = b ∧ n = m := by
  have h1 := congrArg (fun x => (cutB x slash).2.1) h
  dsimp only [msgB] at h1
  rw [cutB_hit mB _ (by decide), cutB_hit mB _ (by decide)] at h1
  dsimp only at h1
  have h2 := congrArg (fun x => cutB x slash) h1
  rw [cutB_hit a _ (name_noslash ha), cutB_hit b _ (name_noslash hb)] at h2
  injection h2 with h3 h4
  injection h4 with h4 _
  exact ⟨h3, six_inj hn hm h4⟩
theorem tab_inj {a b : ByteArray} (h : tabB a = tabB b) : a = b := by
  have h1 := congrArg (fun x => (cutB x slash).2.1) h
  dsimp only [tabB] at h1
  rw [cutB_hit tB _ (by decide), cutB_hit tB _ (by decide)] at h1
  exact h1
theorem tab_que (a b : ByteArray) : tabB a ≠ queB b := fun h => by
  have h1 := congrArg (fun x => (cutB x slash).1) h
  dsimp only [tabB, queB] at h1
  rw [cutB_hit tB _ (by decide), cutB_hit qB _ (by decide)] at h1
  have h2 : tB = qB := h1
  exact absurd h2 (by decide)
/-- What lies from p/ on and below p0. -/
theorem between (p s : List UInt8) : (Op.bytesLess s (p ++ [47]) = false ∧ Op.bytesLess s (p ++ [48]) = true) ↔ ∃ r, s = p ++ 47 :: r := by
  induction p generalizing s with
  | nil =>
    cases s with
    | nil => simp [Op.bytesLess]
    | cons x s =>
      rw [List.nil_append, List.nil_append, bl_cons, bl_cons, show Op.bytesLess s [] = false from by cases s <;> rfl, Bool.and_false, Bool.or_false, Bool.and_false, Bool.or_false, decide_eq_false_iff_not, decide_eq_true_eq, u8_lt, u8_lt]
      rw [show UInt8.toNat 47 = 47 from rfl, show UInt8.toNat 48 = 48 from rfl]
      constructor
      · intro h
        have : x.toNat = 47 := by omega
        exact ⟨s, by rw [show x = 47 from UInt8.toNat_inj.1 this]; rfl⟩
      · rintro ⟨r, h⟩
        injection h with h _
        subst h
        decide
  | cons y p ih =>
    cases s with
    | nil => simp [Op.bytesLess]
    | cons x s =>
      rw [List.cons_append, List.cons_append, bl_cons, bl_cons]
      by_cases h1 : x < y
      · have h2 : x ≠ y := fun e => by rw [e] at h1; exact absurd h1 (by simp)
        simp [h1, h2]
      · by_cases h2 : x = y
        · subst h2
          have := ih s
          simp [this]
        · have h3 : (x == y) = false := by simpa using h2
          simp [h1, h2]
theorem has_msgs (a k : ByteArray) : (!slt k (mB ++ slash ++ a ++ slash) && (((mB ++ slash ++ a ++ ⟨#[48]⟩) : ByteArray).toList.isEmpty || slt k (mB ++ slash ++ a ++ ⟨#[48]⟩))) = true ↔ ∃ r, k.data.toList = 109 :: 47 :: (a.data.toList ++ 47 :: r) := by
  have e1 : (mB ++ slash ++ a ++ slash).toList = (109 :: 47 :: a.data.toList) ++ [47] := by rw [ByteArray.toList_eq, app_data, app_data, app_data]; rfl
  have e2 : ((mB ++ slash ++ a ++ ⟨#[48]⟩) : ByteArray).toList = (109 :: 47 :: a.data.toList) ++ [48] := by rw [ByteArray.toList_eq, app_data, app_data, app_data]; rfl
  have := between (109 :: 47 :: a.data.toList) k.toList
  unfold slt
  rw [e1, e2, Bool.and_eq_true, Bool.not_eq_true', show ((109 :: 47 :: a.data.toList) ++ [(48 : UInt8)]).isEmpty = false from rfl, Bool.false_or, this, ByteArray.toList_eq]
  rfl
theorem has_msg {a b : ByteArray} (ha : NameOk a) (hb : NameOk b) (m : Nat) : (∃ r, (msgB b m).data.toList = 109 :: 47 :: (a.data.toList ++ 47 :: r)) ↔ a = b := by
  have e : (msgB b m).data.toList = 109 :: 47 :: (b.data.toList ++ 47 :: esix (m % 1000000)) := by
    unfold msgB
    rw [app_data, app_data, app_data, app_data]; simp only [List.append_assoc]; rfl
  rw [e]
  constructor
  · rintro ⟨r, h⟩
    injection h with _ h
    injection h with _ h
    have h1 := cut_hit 47 a.data.toList r (name_noslash ha)
    rw [← h, cut_hit 47 _ _ (name_noslash hb)] at h1
    injection h1 with h1 _
    exact ba_ext h1.symm
  · rintro rfl
    exact ⟨_, rfl⟩
theorem has_tab (a b : ByteArray) : ¬ ∃ r, (tabB b).data.toList = 109 :: 47 :: (a.data.toList ++ 47 :: r) := by
  rintro ⟨r, h⟩
  unfold tabB at h
  rw [app_data, app_data] at h
  injection h with h _
  exact absurd h (by decide)
theorem has_que (a b : ByteArray) : ¬ ∃ r, (queB b).data.toList = 109 :: 47 :: (a.data.toList ++ 47 :: r) := by
  rintro ⟨r, h⟩
  unfold queB at h
  rw [app_data, app_data] at h
  injection h with h _
  exact absurd h (by decide)
theorem slt_msg (a : ByteArray) (n m : Nat) (hn : n < 1000000) (hm : m < 1000000) : slt (msgB a n) (msgB a m) = decide (n < m) := by
  have e : ∀ n, n < 1000000 → (msgB a n).toList = (109 :: 47 :: (a.data.toList ++ [47])) ++ esix n := fun n hn => by
    unfold msgB
    rw [ByteArray.toList_eq, app_data, app_data, app_data, app_data, show (six n).data.toList = esix (n % 1000000) from rfl, Nat.mod_eq_of_lt hn]; rfl
  unfold slt
  rw [e n hn, e m hm, bl_same, bl_six n m hn hm]
end Go.Proofs.YtpdnlgopbnkdhaaDoor
namespace Go.Proofs.YtpdnlgopbnkdhaaDoor
open Go.RowKit
/-- How a region is walked: an operation that only computes; the only one that is ready; two that are ready, each ahead of the other. -/
inductive Plan where
  | done
  | pure (i : Nat) (t : Plan)
  | see (i : Nat) (t : Plan)
  | one (i : Nat) (t : Plan)
  | fork (i : Nat) (t : Plan) (j : Nat) (t' : Plan)
  | fork3 (i : Nat) (t : Plan) (j : Nat) (t' : Plan) (k : Nat) (t'' : Plan)
section
variable {P : Program} {ops : Array Oper} {md : Region.Mode} {I : World → Prop}
def mkP (ps : List Nat) (i : Nat) : Nat := if ps.contains i then 0 else if ps.contains (i + 1000) then 2 else 5
def inPlan (P : Program) (ops : Array Oper) (I : World → Prop) (Q : Exit → Act → World → Prop) : Plan → Act → World → Prop
  | .done, a, w => Q .normal a w
  | .pure i t, a, w => ∃ o, ops[i]? = some o ∧ plainOp o.op = true ∧ inFrame o a = true ∧ ∃ a', (∀ (w : World) (K : Exit → Act → World → Prop), K .normal a' w → wpList P ops K [o] a w) ∧ inPlan P ops I Q t a' w
  | .see i t, a, w => ∃ o, ops[i]? = some o ∧ lookOp o.op = true ∧ inFrame o a = true ∧ ∃ a', (∀ w', I w' → ∀ K : Exit → Act → World → Prop, K .normal a' w' → wpList P ops K [o] a w') ∧ inPlan P ops I Q t a' w
  | .one i t, a, w => wpOp P ops Q i (fun a' w' => I w' ∧ inPlan P ops I Q t a' w') a w
  | .fork i t j t', a, w => wpOp P ops Q i (fun a' w' => I w' ∧ inPlan P ops I Q t a' w') a w ∧ wpOp P ops Q j (fun a' w' => I w' ∧ inPlan P ops I Q t' a' w') a w
  | .fork3 i t j t' k t'', a, w => wpOp P ops Q i (fun a' w' => I w' ∧ inPlan P ops I Q t a' w') a w ∧ wpOp P ops Q j (fun a' w' => I w' ∧ inPlan P ops I Q t' a' w') a w ∧ wpOp P ops Q k (fun a' w' => I w' ∧ inPlan P ops I Q t'' a' w') a w
def planB (md : Region.Mode) (ops : Array Oper) (ps : List Nat) : Nat → Plan → Array Bool → Bool
  | 0, .done, listed => (Region.ready md ops listed).isEmpty
  | n + 1, .pure i t, listed => (Region.ready md ops listed).contains i && Region.free md ops listed i && decide (mkP ps i = 0) && planB md ops ps n t (listed.setIfInBounds i true)
  | n + 1, .see i t, listed => (Region.ready md ops listed).contains i && Region.free md ops listed i && decide (mkP ps i = 2) && planB md ops ps n t (listed.setIfInBounds i true)
  | n + 1, .one i t, listed => decide (Region.ready md ops listed = [i]) && decide (mkP ps i = 5) && (ops[i]?).isSome && planB md ops ps n t (listed.setIfInBounds i true)
  | n + 1, .fork i t j t', listed => decide (Region.ready md ops listed = [i, j]) && decide (mkP ps i = 5) && decide (mkP ps j = 5) && (ops[i]?).isSome && (ops[j]?).isSome && planB md ops ps n t (listed.setIfInBounds i true) && planB md ops ps n t' (listed.setIfInBounds j true)
  | n + 1, .fork3 i t j t' k t'', listed => decide (Region.ready md ops listed = [i, j, k]) && decide (mkP ps i = 5) && decide (mkP ps j = 5) && decide (mkP ps k = 5) && (ops[i]?).isSome && (ops[j]?).isSome && (ops[k]?).isSome && planB md ops ps n t (listed.setIfInBounds i true) && planB md ops ps n t' (listed.setIfInBounds j true) && planB md ops ps n t'' (listed.setIfInBounds k true)
  | _, _, _ => false
theorem opR_alone {Q : Exit → Act → World → Prop} {i : Nat} {K : Act → World → Prop} {a : Act} {w : World} (ho : (ops[i]?).isSome = true)
    (h : wpOp P ops Q i (fun a' w' => I w' ∧ K a' w') a w) : opR P ops I Q 5 i K a w := by
  obtain ⟨o, ho⟩ := Option.isSome_iff_exists.1 ho
  exact opR_intro ho h
theorem inPlan_sound {ps : List Nat} {Q : Exit → Act → World → Prop} (hs : Region.noSelect ops = true) (hQ : ∀ c a d v w, Q (.panic c) (a.put d v) w → Q (.panic c) a w) :
    ∀ (t : Plan) (n : Nat) (listed : Array Bool) (a : Act) (w : World), I w → planB md ops ps n t listed = true → inPlan P ops I Q t a w → anyR P md ops I (mkP ps) Q n listed a w
  | .done, 0, listed, a, w, hI, hB, h => ⟨by simpa [planB] using hB, h⟩
  | .done, _ + 1, _, _, _, hI, hB, _ => by simp [planB] at hB
  | .pure i t, 0, _, _, _, hI, hB, _ => by simp [planB] at hB
  | .see i t, 0, _, _, _, hI, hB, _ => by simp [planB] at hB
  | .one i t, 0, _, _, _, hI, hB, _ => by simp [planB] at hB
  | .fork i t j t', 0, _, _, _, hI, hB, _ => by simp [planB] at hB
  | .fork3 i t j t' k t'', 0, _, _, _, hI, hB, _ => by simp [planB] at hB
  | .pure i t, n + 1, listed, a, w, hI, hB, h => by
    simp only [planB, Bool.and_eq_true, decide_eq_true_eq] at hB
    obtain ⟨⟨⟨hr, hf⟩, hmk⟩, hB'⟩ := hB
    obtain ⟨o, ho, hp, hfr, a', h1, h2⟩ := h
    obtain ⟨v, hy, rfl⟩ := yields_of hp hfr h1
    exact anyR_pure ho hmk (Region.noSelect_spec hs) (fun c a w => hQ c a o.dst v w) n listed a w (Region.free_spec ho hf) (by simpa using hr) hy (inPlan_sound hs hQ t n _ _ _ hI hB' h2)
  | .see i t, n + 1, listed, a, w, hI, hB, h => by
    simp only [planB, Bool.and_eq_true, decide_eq_true_eq] at hB
    obtain ⟨⟨⟨hr, hf⟩, hmk⟩, hB'⟩ := hB
    obtain ⟨o, ho, hp, hfr, a', h1, h2⟩ := h
    obtain ⟨v, hy, rfl⟩ := sees_of hI hp hfr h1
    exact anyR_see ho hmk (Region.noSelect_spec hs) (fun c a w => hQ c a o.dst v w) n listed a w (Region.free_spec ho hf) (by simpa using hr) hy (inPlan_sound hs hQ t n _ _ _ hI hB' h2)
  | .one i t, n + 1, listed, a, w, hI, hB, h => by
    simp only [planB, Bool.and_eq_true, decide_eq_true_eq] at hB
    obtain ⟨⟨⟨hr, hmk⟩, ho⟩, hB'⟩ := hB
    refine ⟨fun h0 => (by rw [hr] at h0; cases h0), fun j hj => ?_⟩
    rw [hr, List.mem_singleton] at hj
    subst hj
    rw [hmk]
    exact opR_alone ho (wpOp_mono (fun a' w' h' => ⟨h'.1, inPlan_sound hs hQ t n _ _ _ h'.1 hB' h'.2⟩) h)
  | .fork i t j t', n + 1, listed, a, w, hI, hB, h => by
    simp only [planB, Bool.and_eq_true, decide_eq_true_eq] at hB
    obtain ⟨⟨⟨⟨⟨⟨hr, hmi⟩, hmj⟩, hi⟩, hj⟩, hB1⟩, hB2⟩ := hB
    refine ⟨fun h0 => (by rw [hr] at h0; cases h0), fun k hk => ?_⟩
    rw [hr] at hk
    rcases List.mem_cons.1 hk with rfl | hk
    · rw [hmi]
      exact opR_alone hi (wpOp_mono (fun a' w' h' => ⟨h'.1, inPlan_sound hs hQ t n _ _ _ h'.1 hB1 h'.2⟩) h.1)
    · rw [List.mem_singleton] at hk
      subst hk
      rw [hmj]
      exact opR_alone hj (wpOp_mono (fun a' w' h' => ⟨h'.1, inPlan_sound hs hQ t' n _ _ _ h'.1 hB2 h'.2⟩) h.2)
  | .fork3 i t j t' k t'', n + 1, listed, a, w, hI, hB, h => by
    simp only [planB, Bool.and_eq_true, decide_eq_true_eq] at hB
    obtain ⟨⟨⟨⟨⟨⟨⟨⟨⟨hr, hmi⟩, hmj⟩, hmk⟩, hi⟩, hj⟩, hk3⟩, hB1⟩, hB2⟩, hB3⟩ := hB
    refine ⟨fun h0 => (by rw [hr] at h0; cases h0), fun m hm => ?_⟩
    rw [hr] at hm
    rcases List.mem_cons.1 hm with rfl | hm
    · rw [hmi]
      exact opR_alone hi (wpOp_mono (fun a' w' h' => ⟨h'.1, inPlan_sound hs hQ t n _ _ _ h'.1 hB1 h'.2⟩) h.1)
    · rcases List.mem_cons.1 hm with rfl | hm
      · rw [hmj]
        exact opR_alone hj (wpOp_mono (fun a' w' h' => ⟨h'.1, inPlan_sound hs hQ t' n _ _ _ h'.1 hB2 h'.2⟩) h.2.1)
      · rw [List.mem_singleton] at hm
        subst hm
        rw [hmk]
        exact opR_alone hk3 (wpOp_mono (fun a' w' h' => ⟨h'.1, inPlan_sound hs hQ t'' n _ _ _ h'.1 hB3 h'.2⟩) h.2.2)
def planAll (ops : Array Oper) (ps : List Nat) (t : Plan) : Bool := Region.noSelect ops && planB .any ops ps ops.size t (Array.replicate ops.size false)
/-- A region whose order is open, by a plan. -/
theorem wp_region_plan {id : Nat} {l : List Oper} {Q : Exit → Act → World → Prop} {a : Act} {w : World} (ps : List Nat) (t : Plan) (hm : P.follows .mixedOrders = true)
    (hB : planAll l.toArray ps t = true) (hQ : ∀ c a d v w, Q (.panic c) (a.put d v) w → Q (.panic c) a w)
    (h : ∀ w', Ext w w' → inPlan P l.toArray (fun _ => True) Q t a w') : (Code.region id l.toArray true).wp P Q a w := by
  simp only [planAll, Bool.and_eq_true] at hB
  refine wp_region_any hm (anyR_sound (mk := mkP ps) (I := fun _ => True) (fun _ _ _ _ => trivial) _ _ _ _ trivial ?_)
  have := inPlan_sound (md := .any) (ps := ps) hB.1 hQ t l.toArray.size (Array.replicate l.toArray.size false) a w.drew trivial hB.2 (h _ (Ext.drew_self w))
  simpa using this
theorem inPlan_p {Q : Exit → Act → World → Prop} {a : Act} {w : World} {i : Nat} {t : Plan} {l : List Oper} {o : Oper} (a' : Act) (ho : nth l i = some o) (hp : plainOp o.op = true) (hf : inFrame o a = true)
    (h : ∀ (w : World) (K : Exit → Act → World → Prop), K .normal a' w → wpList P l.toArray K [o] a w) (hr : inPlan P l.toArray I Q t a' w) : inPlan P l.toArray I Q (.pure i t) a w := ⟨o, (nth_eq l i).symm.trans ho, hp, hf, a', h, hr⟩
theorem inPlan_s {Q : Exit → Act → World → Prop} {a : Act} {w : World} {i : Nat} {t : Plan} {l : List Oper} {o : Oper} (a' : Act) (ho : nth l i = some o) (hp : lookOp o.op = true) (hf : inFrame o a = true)
    (h : ∀ w', I w' → ∀ (K : Exit → Act → World → Prop), K .normal a' w' → wpList P l.toArray K [o] a w') (hr : inPlan P l.toArray I Q t a' w) : inPlan P l.toArray I Q (.see i t) a w := ⟨o, (nth_eq l i).symm.trans ho, hp, hf, a', h, hr⟩
theorem inPlan_one {Q : Exit → Act → World → Prop} {a : Act} {w : World} {i : Nat} {t : Plan} {l : List Oper} {o : Oper} (ho : nth l i = some o)
    (h : ∀ K : Exit → Act → World → Prop, (∀ a w, inPlan P l.toArray (fun _ => True) Q t a w → K .normal a w) → wpList P l.toArray K [o] a w) : inPlan P l.toArray (fun _ => True) Q (.one i t) a w :=
  wpOp_of_list ((nth_eq l i).symm.trans ho) fun K hK => h K fun a' w' h2 => hK a' w' ⟨trivial, h2⟩
theorem inPlan_fork {Q : Exit → Act → World → Prop} {a : Act} {w : World} {i j : Nat} {t t' : Plan} {l : List Oper} {o o' : Oper} (ho : nth l i = some o) (ho' : nth l j = some o')
    (h : ∀ K : Exit → Act → World → Prop, (∀ a w, inPlan P l.toArray (fun _ => True) Q t a w → K .normal a w) → wpList P l.toArray K [o] a w)
    (h' : ∀ K : Exit → Act → World → Prop, (∀ a w, inPlan P l.toArray (fun _ => True) Q t' a w → K .normal a w) → wpList P l.toArray K [o'] a w) : inPlan P l.toArray (fun _ => True) Q (.fork i t j t') a w :=
  ⟨wpOp_of_list ((nth_eq l i).symm.trans ho) fun K hK => h K fun a' w' h2 => hK a' w' ⟨trivial, h2⟩, wpOp_of_list ((nth_eq l j).symm.trans ho') fun K hK => h' K fun a' w' h2 => hK a' w' ⟨trivial, h2⟩⟩
theorem inPlan_fork3 {Q : Exit → Act → World → Prop} {a : Act} {w : World} {i j k : Nat} {t t' t'' : Plan} {l : List Oper} {o o' o'' : Oper} (ho : nth l i = some o) (ho' : nth l j = some o') (ho'' : nth l k = some o'')
    (h : ∀ K : Exit → Act → World → Prop, (∀ a w, inPlan P l.toArray (fun _ => True) Q t a w → K .normal a w) → wpList P l.toArray K [o] a w)
    (h' : ∀ K : Exit → Act → World → Prop, (∀ a w, inPlan P l.toArray (fun _ => True) Q t' a w → K .normal a w) → wpList P l.toArray K [o'] a w)
    (h'' : ∀ K : Exit → Act → World → Prop, (∀ a w, inPlan P l.toArray (fun _ => True) Q t'' a w → K .normal a w) → wpList P l.toArray K [o''] a w) : inPlan P l.toArray (fun _ => True) Q (.fork3 i t j t' k t'') a w :=
  ⟨wpOp_of_list ((nth_eq l i).symm.trans ho) fun K hK => h K fun a' w' h2 => hK a' w' ⟨trivial, h2⟩, wpOp_of_list ((nth_eq l j).symm.trans ho') fun K hK => h' K fun a' w' h2 => hK a' w' ⟨trivial, h2⟩, wpOp_of_list ((nth_eq l k).symm.trans ho'') fun K hK => h'' K fun a' w' h2 => hK a' w' ⟨trivial, h2⟩⟩
theorem inPlan_done {Q : Exit → Act → World → Prop} {a : Act} {w : World} (h : Q .normal a w) : inPlan P ops I Q .done a w := h
theorem inPlan_alloc_own {S : Nat → Prop} {W w : World} {l : List Rs} {t : Plan} {a : Act} {Q : Exit → Act → World → Prop} {cs : List Value} {ty : TypeId} (hO : Own S W w l) (k : ∀ w', Own S W w' (Var w.heap.size cs ty :: l) → inPlan P ops I Q t a w') : inPlan P ops I Q t a (w.alloc (.cells cs.toArray ty)) := k _ (hO.alloc cs ty)
end
end Go.Proofs.YtpdnlgopbnkdhaaDoor
namespace Go.Proofs.YtpdnlgopbnkdhaaDoor
open Go.RowKit
theorem Tryd.intU8 : Tryd.prog.underlying 5 = some (.int .u8) := by kernel_rfl
theorem push_one (m : Int) : ([m] : List Int).foldl (fun r n => r.push (UInt8.ofNat n.toNat)) ByteArray.empty = ⟨#[UInt8.ofNat m.toNat]⟩ := rfl
theorem pad_six (m : Nat) (h : m < 1000000) : List.replicate (6 - (Lib.decDigits m).length) 48 ++ Lib.decDigits m = esix m := by
  have z : d8 0 = 48 := rfl
  unfold esix
  by_cases h1 : m < 10
  · rw [dec_one m h1, show m / 100000 % 10 = 0 from by omega, show m / 10000 % 10 = 0 from by omega, show m / 1000 % 10 = 0 from by omega, show m / 100 % 10 = 0 from by omega, show m / 10 % 10 = 0 from by omega, show m % 10 = m from by omega]; rfl
  rw [dec_step m h1]
  by_cases h2 : m / 10 < 10
  · rw [dec_one _ h2, show m / 100000 % 10 = 0 from by omega, show m / 10000 % 10 = 0 from by omega, show m / 1000 % 10 = 0 from by omega, show m / 100 % 10 = 0 from by omega, show m / 10 % 10 = m / 10 from by omega]; rfl
  rw [dec_step _ h2]
  by_cases h3 : m / 10 / 10 < 10
  · rw [dec_one _ h3, show m / 100000 % 10 = 0 from by omega, show m / 10000 % 10 = 0 from by omega, show m / 1000 % 10 = 0 from by omega, show m / 100 % 10 = m / 10 / 10 from by omega]; rfl
  rw [dec_step _ h3]
  by_cases h4 : m / 10 / 10 / 10 < 10
  · rw [dec_one _ h4, show m / 100000 % 10 = 0 from by omega, show m / 10000 % 10 = 0 from by omega, show m / 1000 % 10 = m / 10 / 10 / 10 from by omega, show m / 100 % 10 = m / 10 / 10 % 10 from by omega]; rfl
  rw [dec_step _ h4]
  by_cases h5 : m / 10 / 10 / 10 / 10 < 10
  · rw [dec_one _ h5, show m / 100000 % 10 = 0 from by omega, show m / 10000 % 10 = m / 10 / 10 / 10 / 10 from by omega, show m / 1000 % 10 = m / 10 / 10 / 10 % 10 from by omega, show m / 100 % 10 = m / 10 / 10 % 10 from by omega]; rfl
  rw [dec_step _ h5, dec_one (m / 10 / 10 / 10 / 10 / 10) (by omega), show m / 100000 % 10 = m / 10 / 10 / 10 / 10 / 10 from by omega, show m / 10000 % 10 = m / 10 / 10 / 10 / 10 % 10 from by omega, show m / 1000 % 10 = m / 10 / 10 / 10 % 10 from by omega, show m / 100 % 10 = m / 10 / 10 % 10 from by omega]; rfl
def padB (k m : Nat) : ByteArray := ⟨(List.replicate k 48 ++ Lib.decDigits m).toArray⟩
theorem padB_size (k m : Nat) : (padB k m).size = k + (Lib.decDigits m).length := by
  show (List.replicate k (48 : UInt8) ++ Lib.decDigits m).toArray.size = _
  simp
theorem padB_succ (k m : Nat) : (⟨#[48]⟩ : ByteArray) ++ padB k m = padB (k + 1) m := ba_ext (by
  rw [app_data]
  show [48] ++ (List.replicate k (48 : UInt8) ++ Lib.decDigits m) = List.replicate (k + 1) 48 ++ Lib.decDigits m
  rw [List.replicate_succ]; rfl)
end Go.Proofs.YtpdnlgopbnkdhaaDoor
namespace Go.Proofs.YtpdnlgopbnkdhaaDoor
open Go.RowKit
theorem retS {a b : ByteArray} (h : a = b) : Ending.returned (.string a) = .returned (.string b) := by rw [h]
def loB (a : ByteArray) : ByteArray := mB ++ slash ++ a ++ slash
def hiB (a : ByteArray) : ByteArray := mB ++ slash ++ a ++ ⟨#[48]⟩
def belowB (k hi : ByteArray) : Bool := hi.toList.isEmpty || slt k hi
def hasB (lo hi k : ByteArray) : Bool := !slt k lo && belowB k hi
set_option maxHeartbeats 400000 in
theorem belowB_any (k hi : ByteArray) (w : World) :
    Calls Tryd.prog 91 #[.string k, .string hi] w fun e w' => e = .returned (.bool (belowB k hi)) ∧ w' = w := by
  go_enter Tryd.func91, Tryd.ntmps91
  go_wp2
  all_goals (go_ret; refine ⟨?_, rfl⟩; simp [belowB, slt, *])
set_option maxHeartbeats 400000 in
theorem hasB_any (lo hi k : ByteArray) (w : World) :
    Calls Tryd.prog 54 #[.agg #[.string lo, .string hi], .string k] w fun e w' => e = .returned (.bool (hasB lo hi k)) ∧ Ext w w' := by
  go_enter Tryd.func54, Tryd.ntmps54
  go_wp2_with (go_at_call 91; refine (belowB_any _ _ _).mono ?_; rintro e w' ⟨rfl, rfl⟩)
  all_goals (go_ret; refine ⟨?_, (Ext.refl _).alloc _⟩; simp [hasB, slt, *])
end Go.Proofs.YtpdnlgopbnkdhaaDoor
namespace Go.Proofs.YtpdnlgopbnkdhaaDoor
open Go.RowKit
theorem ext_list (k : ByteArray) (i j : Nat) : (k.extract i j).data.toList = (k.data.toList.take j).drop i := by
  rw [ByteArray.data_extract, Array.toList_extract, List.extract_eq_take_drop, List.drop_take]
theorem key_split (k : ByteArray) (i : Nat) (h : i ≤ k.size) : k = k.extract 0 i ++ k.extract i k.size := ba_ext (by
  rw [app_data, ext_list, ext_list, List.drop_zero]
  have : k.size = k.data.toList.length := by simp
  rw [this, List.take_length, List.take_append_drop])
theorem six_of_digits (l : List UInt8) (hl : l.length = 6) (hd : ∀ c ∈ l, 48 ≤ c.toNat ∧ c.toNat ≤ 57) : ∃ m, m < 1000000 ∧ l = esix m := by
  match l, hl with
  | [a, b, c, d, e, f], _ =>
    have ha := hd a (by simp)
    have hb := hd b (by simp)
    have hc := hd c (by simp)
    have hd' := hd d (by simp)
    have he := hd e (by simp)
    have hf := hd f (by simp)
    have back : ∀ x : UInt8, 48 ≤ x.toNat → x.toNat ≤ 57 → x = d8 (x.toNat - 48) := fun x h1 h2 => UInt8.toNat_inj.1 (by rw [d8_toNat _ (by omega)]; omega)
    have mk : ∀ x : UInt8, 48 ≤ x.toNat ∧ x.toNat ≤ 57 → ∃ y, y < 10 ∧ x = d8 y := fun x h => ⟨x.toNat - 48, by omega, back x h.1 h.2⟩
    obtain ⟨x1, h1, rfl⟩ := mk a ha
    obtain ⟨x2, h2, rfl⟩ := mk b hb
    obtain ⟨x3, h3, rfl⟩ := mk c hc
    obtain ⟨x4, h4, rfl⟩ := mk d hd'
    obtain ⟨x5, h5, rfl⟩ := mk e he
    obtain ⟨x6, h6, rfl⟩ := mk f hf
    refine ⟨((((x1 * 10 + x2) * 10 + x3) * 10 + x4) * 10 + x5) * 10 + x6, by omega, ?_⟩
    unfold esix
    rw [show (((((x1 * 10 + x2) * 10 + x3) * 10 + x4) * 10 + x5) * 10 + x6) / 100000 % 10 = x1 from by omega, show (((((x1 * 10 + x2) * 10 + x3) * 10 + x4) * 10 + x5) * 10 + x6) / 10000 % 10 = x2 from by omega,
      show (((((x1 * 10 + x2) * 10 + x3) * 10 + x4) * 10 + x5) * 10 + x6) / 1000 % 10 = x3 from by omega, show (((((x1 * 10 + x2) * 10 + x3) * 10 + x4) * 10 + x5) * 10 + x6) / 100 % 10 = x4 from by omega,
      show (((((x1 * 10 + x2) * 10 + x3) * 10 + x4) * 10 + x5) * 10 + x6) / 10 % 10 = x5 from by omega, show (((((x1 * 10 + x2) * 10 + x3) * 10 + x4) * 10 + x5) * 10 + x6) % 10 = x6 from by omega]
theorem esix_digits (m : Nat) : ∀ c ∈ esix m, 48 ≤ c.toNat ∧ c.toNat ≤ 57 := by
  unfold esix
  intro c hc
  simp only [List.mem_cons, List.not_mem_nil, or_false] at hc
  rcases hc with rfl | rfl | rfl | rfl | rfl | rfl <;> (rw [d8_toNat _ (by omega)]; omega)
def head2 (k : ByteArray) : ByteArray := k.extract 0 2
def rest2 (k : ByteArray) : ByteArray := k.extract 2 k.size
def mid (k : ByteArray) : ByteArray := k.extract 2 (k.size - 7)
/-- Is each of the last six a digit? -/
def Tail6 (k : ByteArray) : Prop := ∀ i (h : i < k.size), k.size - 6 ≤ i → 48 ≤ k[i].toNat ∧ k[i].toNat ≤ 57
theorem ba_get (k : ByteArray) (i : Nat) (h : i < k.size) : k[i] = k.data.toList[i]'(by simpa using h) := rfl
theorem head2_list (k : ByteArray) : (head2 k).data.toList = k.data.toList.take 2 := by unfold head2; rw [ext_list, List.drop_zero]
theorem rest2_list (k : ByteArray) : (rest2 k).data.toList = k.data.toList.drop 2 := by
  unfold rest2
  rw [ext_list, show k.size = k.data.toList.length from by simp, List.take_length]
theorem key_tq (k : ByteArray) (x : ByteArray) (hx : x.size = 1) (h : head2 k = x ++ slash) : k = x ++ slash ++ rest2 k := ba_ext (by
  rw [app_data, ← h, head2_list, rest2_list, List.take_append_drop])
theorem rest2_app (x r : ByteArray) (hx : x.size = 1) : rest2 (x ++ slash ++ r) = r := ba_ext (by
  rw [rest2_list, app_data, app_data, show (x.data.toList ++ slash.data.toList ++ r.data.toList) = (x.data.toList ++ slash.data.toList) ++ r.data.toList from rfl]
  have : (x.data.toList ++ slash.data.toList).length = 2 := by
    rw [List.length_append]
    have h1 : x.data.toList.length = 1 := by simpa using hx
    rw [h1]; rfl
  rw [← this, List.drop_left])
theorem KeyOk_tq (k : ByteArray) (h : head2 k = tB ++ slash ∨ head2 k = qB ++ slash) : KeyOk k ↔ NameOk (rest2 k) := by
  rcases h with h | h
  · have e := key_tq k tB rfl h
    constructor
    · intro hk
      have := (KeyOk_cut k).1 hk
      have hc : cutB k slash = (tB, rest2 k, true) := by
        generalize rest2 k = r at e
        rw [e]; exact cutB_hit tB _ (by decide)
      rw [hc] at this
      rcases this.2 with h2 | h2
      · exact h2.2
      · exact absurd (show tB = mB from h2.1) (by decide)
    · intro hn
      exact .inl ⟨_, hn, .inl e⟩
  · have e := key_tq k qB rfl h
    constructor
    · intro hk
      have := (KeyOk_cut k).1 hk
      have hc : cutB k slash = (qB, rest2 k, true) := by
        generalize rest2 k = r at e
        rw [e]; exact cutB_hit qB _ (by decide)
      rw [hc] at this
      rcases this.2 with h2 | h2
      · exact h2.2
      · exact absurd (show qB = mB from h2.1) (by decide)
    · intro hn
      exact .inl ⟨_, hn, .inr e⟩
theorem mid_list (k : ByteArray) : (mid k).data.toList = (k.data.toList.take (k.size - 7)).drop 2 := by unfold mid; rw [ext_list]
theorem list_four (l : List UInt8) (h : 10 ≤ l.length) (hl : l.length - 7 < l.length) : l = l.take 2 ++ ((l.take (l.length - 7)).drop 2 ++ (l[l.length - 7]'hl :: l.drop (l.length - 6))) := by
  have e1 : l.take (l.length - 7) = l.take 2 ++ (l.take (l.length - 7)).drop 2 := by
    conv => lhs; rw [← List.take_append_drop 2 (l.take (l.length - 7))]
    rw [List.take_take, Nat.min_eq_left (by omega)]
  have e2 : l.drop (l.length - 7) = l[l.length - 7]'hl :: l.drop (l.length - 6) := by
    rw [List.drop_eq_getElem_cons hl, show l.length - 7 + 1 = l.length - 6 from by omega]
  conv => lhs; rw [← List.take_append_drop (l.length - 7) l, e1, e2]
  rw [List.append_assoc]
theorem tail6_list (k : ByteArray) : Tail6 k ↔ ∀ c ∈ k.data.toList.drop (k.size - 6), 48 ≤ c.toNat ∧ c.toNat ≤ 57 := by
  have hs : k.data.toList.length = k.size := by simp
  constructor
  · intro h c hc
    obtain ⟨i, hi, rfl⟩ := List.getElem_of_mem hc
    rw [List.length_drop, hs] at hi
    have := h (k.size - 6 + i) (by omega) (by omega)
    rw [ba_get] at this
    rw [List.getElem_drop]
    exact this
  · intro h i hi h6
    have hm : k.data.toList[i]'(by rw [hs]; exact hi) ∈ k.data.toList.drop (k.size - 6) := by
      rw [List.mem_iff_getElem]
      refine ⟨i - (k.size - 6), by rw [List.length_drop, hs]; omega, ?_⟩
      rw [List.getElem_drop]
      congr 1; omega
    have := h _ hm
    rw [ba_get]
    exact this
theorem KeyOk_m (k : ByteArray) (h : ¬ (2 < k.size ∧ (head2 k = tB ++ slash ∨ head2 k = qB ++ slash))) :
    KeyOk k ↔ 10 ≤ k.size ∧ head2 k = mB ++ slash ∧ (∃ h7 : k.size - 7 < k.size, k[k.size - 7] = 47) ∧ NameOk (mid k) ∧ Tail6 k := by
  have hs : k.data.toList.length = k.size := by simp
  constructor
  · rintro (⟨a, ha, hk | hk⟩ | ⟨q, n, hq, hn, hk⟩)
    · exfalso
      apply h
      have h1 := ha.1
      refine ⟨by rw [hk, ByteArray.size_append, ByteArray.size_append]; show 2 < 1 + 1 + a.size; omega, .inl (ba_ext ?_)⟩
      rw [head2_list, hk, app_data, app_data]; rfl
    · exfalso
      apply h
      have h1 := ha.1
      refine ⟨by rw [hk, ByteArray.size_append, ByteArray.size_append]; show 2 < 1 + 1 + a.size; omega, .inr (ba_ext ?_)⟩
      rw [head2_list, hk, app_data, app_data]; rfl
    · have hl : k.data.toList = 109 :: 47 :: (q.data.toList ++ 47 :: esix (n % 1000000)) := by
        rw [hk, app_data, app_data, app_data, app_data]; simp only [List.append_assoc]; rfl
      have hqs : q.data.toList.length = q.size := by simp
      have hsz : k.size = q.size + 9 := by
        rw [← hs, hl]; simp only [List.length_cons, List.length_append, hqs]
        show q.size + (6 + 1) + 1 + 1 = _; omega
      have h1 := hq.1
      refine ⟨by omega, ba_ext (by rw [head2_list, hl]; rfl), ⟨by omega, ?_⟩, ?_, ?_⟩
      · rw [ba_get]
        have : k.data.toList[k.size - 7]? = some 47 := by
          rw [hl, show k.size - 7 = q.size + 2 from by omega, ← hqs]
          simp
        have h2 := List.getElem?_eq_some_iff.1 this
        exact h2.2
      · rw [show mid k = q from ba_ext (by
          rw [mid_list, hl, show k.size - 7 = q.data.toList.length + 1 + 1 from by omega]
          simp)]
        exact hq
      · rw [tail6_list, hl, show k.size - 6 = q.data.toList.length + 1 + 1 + 1 from by omega]
        have : List.drop (q.data.toList.length + 1 + 1 + 1) (109 :: 47 :: (q.data.toList ++ 47 :: esix (n % 1000000))) = esix (n % 1000000) := by
          simp only [List.drop_succ_cons]
          rw [show q.data.toList.length + 1 = (q.data.toList ++ [47]).length from by simp, show q.data.toList ++ 47 :: esix (n % 1000000) = (q.data.toList ++ [47]) ++ esix (n % 1000000) from by simp, List.drop_left]
        rw [this]
        exact esix_digits _
  · rintro ⟨h10, h1, ⟨h7, h2⟩, h3, h4⟩
    rw [tail6_list] at h4
    have h5 := list_four k.data.toList (by omega) (by omega)
    obtain ⟨m, hm, h6⟩ := six_of_digits _ (by rw [List.length_drop, hs]; omega) h4
    rw [ba_get] at h2
    refine .inr ⟨mid k, m, h3, hm, ba_ext ?_⟩
    have h9 : (mB ++ slash).data.toList = k.data.toList.take 2 := by rw [← h1, head2_list]
    rw [app_data, h9, app_data, app_data, mid_list, show (six m).data.toList = esix m from by show esix (m % 1000000) = _; rw [Nat.mod_eq_of_lt hm], ← h6]
    have h8 : k.data.toList[k.data.toList.length - 7]'(by omega) = 47 := by
      rw [← h2]; congr 1 <;> omega
    rw [h8, hs] at h5
    try (first | exact h5 | (rw [List.append_assoc]; exact h5))
set_option maxHeartbeats 4000000 in
set_option maxRecDepth 100000 in
theorem keyFault_any (k : ByteArray) (w : World) (hs : k.size ≤ 300) : Calls Tryd.prog 75 #[.string k] w fun e w' => e = .returned (.int .i64 (keyN k)) ∧ w' = w := by
  by_cases h1 : 2 < k.size ∧ (head2 k = tB ++ slash ∨ head2 k = qB ++ slash)
  · obtain ⟨h2, h3⟩ := h1
    have hK := KeyOk_tq k h3
    have hrs : (rest2 k).size ≤ 300 := by unfold rest2; rw [ByteArray.size_extract]; omega
    have HN1 := fun w => nameMay_any (rest2 k) w (by omega)
    have hh : ((k.extract 0 2).toList == [116, 47]) = true ∨ ((k.extract 0 2).toList == [113, 47]) = true := by
      rcases h3 with h | h
      · left; rw [show k.extract 0 2 = tB ++ slash from h]; decide +kernel
      · right; rw [show k.extract 0 2 = qB ++ slash from h]; decide +kernel
    rw [show rest2 k = k.extract 2 k.size from rfl] at HN1 hK
    generalize hx : k.extract 0 2 = x at *
    by_cases hN : NameOk (k.extract 2 k.size)
    · rw [keyN_yes (hK.2 hN)]
      rw [decide_eq_true hN] at HN1
      clear hK hN h3
      cases ht : (x.toList == [116, 47]) with
      | true =>
        go_enter Tryd.func75, Tryd.ntmps75
        go_wp2_with (go_at_call 94; (with_reducible apply Calls.mono (HN1 _); rintro e8 w8 ⟨rfl, rfl⟩; dsimp only))
        go_ret
        exact ⟨rfl, rfl⟩
      | false =>
        rw [ht] at hh
        have hq := hh.resolve_left (by simp)
        clear hh
        go_enter Tryd.func75, Tryd.ntmps75
        go_wp2_with (go_at_call 94; (with_reducible apply Calls.mono (HN1 _); rintro e8 w8 ⟨rfl, rfl⟩; dsimp only))
        go_ret
        exact ⟨rfl, rfl⟩
    · rw [keyN_no (fun h => hN (hK.1 h))]
      rw [decide_eq_false hN] at HN1
      clear hK hN h3
      cases ht : (x.toList == [116, 47]) with
      | true =>
        go_enter Tryd.func75, Tryd.ntmps75
        go_wp2_with (go_at_call 94; (with_reducible apply Calls.mono (HN1 _); rintro e8 w8 ⟨rfl, rfl⟩; dsimp only))
        go_ret
        exact ⟨rfl, rfl⟩
      | false =>
        rw [ht] at hh
        have hq := hh.resolve_left (by simp)
        clear hh
        go_enter Tryd.func75, Tryd.ntmps75
        go_wp2_with (go_at_call 94; (with_reducible apply Calls.mono (HN1 _); rintro e8 w8 ⟨rfl, rfl⟩; dsimp only))
        go_ret
        exact ⟨rfl, rfl⟩
  · have hK := KeyOk_m k h1
    have hno : ¬ 2 < k.size ∨ ((k.extract 0 2).toList == [116, 47]) = false ∧ ((k.extract 0 2).toList == [113, 47]) = false := by
      by_cases h2 : 2 < k.size
      · right
        constructor
        · rw [show ([116, 47] : List UInt8) = (tB ++ slash).toList from by decide +kernel]
          exact list_neq (fun e => h1 ⟨h2, .inl e⟩)
        · rw [show ([113, 47] : List UInt8) = (qB ++ slash).toList from by decide +kernel]
          exact list_neq (fun e => h1 ⟨h2, .inr e⟩)
      · exact .inl h2
    clear h1
    by_cases h10 : 10 ≤ k.size
    · obtain ⟨ht, hq⟩ := hno.resolve_left (by omega)
      clear hno
      have hms : (mid k).size ≤ 300 := by unfold mid; rw [ByteArray.size_extract]; omega
      have HN1 := fun w => nameMay_any (mid k) w (by omega)
      have hmm : head2 k = mB ++ slash ↔ ((k.extract 0 2).toList == [109, 47]) = true := by
        rw [show ([109, 47] : List UInt8) = (mB ++ slash).toList from by decide +kernel]
        constructor
        · intro h; rw [show k.extract 0 2 = mB ++ slash from h]; simp
        · intro h
          apply Classical.byContradiction
          intro hne
          rw [list_neq (show k.extract 0 2 ≠ mB ++ slash from hne)] at h
          cases h
      rw [hmm] at hK
      clear hmm
      rw [show mid k = k.extract 2 (k.size - 7) from rfl] at HN1 hK
      generalize hx : k.extract 0 2 = x at *
      cases hm : (x.toList == [109, 47]) with
      | false =>
        rw [keyN_no (fun h => by have := (hK.1 h).2.1; rw [hm] at this; cases this)]
        clear hK
        go_enter Tryd.func75, Tryd.ntmps75
        go_wp2_with (go_at_call 94; (with_reducible apply Calls.mono (HN1 _); rintro e8 w8 ⟨rfl, rfl⟩; dsimp only))
        go_ret
        exact ⟨rfl, rfl⟩
      | true =>
        by_cases h47 : k[k.size - 7]'(by omega) = 47
        · by_cases hN : NameOk (k.extract 2 (k.size - 7))
          · have hK2 : KeyOk k ↔ Tail6 k := hK.trans ⟨fun h => h.2.2.2.2, fun h => ⟨h10, hm, ⟨by omega, h47⟩, hN, h⟩⟩
            clear hK
            rw [decide_eq_true hN] at HN1
            have hc : (((k[k.size - 7]'(by omega)).toNat : Int) != 47) = false := by rw [h47]; rfl
            go_enter Tryd.func75, Tryd.ntmps75
            go_wp2_with (go_at_call 94; (with_reducible apply Calls.mono (HN1 _); rintro e8 w8 ⟨rfl, rfl⟩; dsimp only)) -- M2
            clear hN HN1
            go_loop [6] (fun v => ∃ i : Nat, k.size - 6 ≤ i ∧ i ≤ k.size ∧ v = .int .i64 i ∧ Hid (∀ j (h : j < k.size), k.size - 6 ≤ j → j < i → 48 ≤ k[j].toNat ∧ k[j].toNat ≤ 57)) (fun v => k.size - (intOf v).toNat)
            case atStart => exact ⟨k.size - 6, by omega, by omega, by congr 1; omega, Lib.hid (fun j _ h1 h2 => by omega)⟩
            case round =>
              obtain ⟨i, hi1, hi2, rfl, HI⟩ := hrel
              by_cases hlt : i < k.size
              · go_wp2
                all_goals first
                  | (go_ret; refine ⟨?_, rfl⟩; rw [keyN_no (fun h => by have := hK2.1 h i hlt hi1; omega)]; rfl)
                  | (refine ⟨⟨i + 1, by omega, by omega, by go_num, Lib.hid (fun j hj h1 h2 => ?_)⟩, by simp [intOf]; omega⟩; rcases Nat.lt_or_ge j i with h3 | h3
                     · exact HI.out j hj h1 h3
                     · obtain rfl : j = i := by omega
                       omega)
              · go_wp2
                go_ret
                refine ⟨?_, rfl⟩
                rw [keyN_yes (hK2.2 (fun j hj h1 => HI.out j hj h1 (by omega)))]; rfl
          · rw [keyN_no (fun h => hN (hK.1 h).2.2.2.1)]
            rw [decide_eq_false hN] at HN1
            have hc : (((k[k.size - 7]'(by omega)).toNat : Int) != 47) = false := by rw [h47]; rfl
            clear hK hN
            go_enter Tryd.func75, Tryd.ntmps75
            go_wp2_with (go_at_call 94; (with_reducible apply Calls.mono (HN1 _); rintro e8 w8 ⟨rfl, rfl⟩; dsimp only))
            go_ret
            exact ⟨rfl, rfl⟩
        · rw [keyN_no (fun h => by obtain ⟨_, h⟩ := (hK.1 h).2.2.1; exact h47 h)]
          have hc : (((k[k.size - 7]'(by omega)).toNat : Int) != 47) = true := by
            have h48 : ¬ (k[k.size - 7]'(by omega)).toNat = 47 := fun e => h47 (UInt8.toNat_inj.1 e)
            simp only [bne_iff_ne]; omega
          clear hK
          go_enter Tryd.func75, Tryd.ntmps75
          go_wp2_with (go_at_call 94; (with_reducible apply Calls.mono (HN1 _); rintro e8 w8 ⟨rfl, rfl⟩; dsimp only))
          all_goals (go_ret; exact ⟨rfl, rfl⟩)
    · rw [keyN_no (fun h => h10 (hK.1 h).1)]
      clear hK
      by_cases h2 : 2 < k.size
      · obtain ⟨ht, hq⟩ := hno.resolve_left (by omega)
        clear hno
        generalize hx : k.extract 0 2 = x at *
        go_enter Tryd.func75, Tryd.ntmps75
        go_wp2_with (go_at_call 94; (with_reducible apply Calls.mono (HN1 _); rintro e8 w8 ⟨rfl, rfl⟩; dsimp only))
        go_ret
        exact ⟨rfl, rfl⟩
      · clear hno
        go_enter Tryd.func75, Tryd.ntmps75
        go_wp2_with (go_at_call 94; (with_reducible apply Calls.mono (HN1 _); rintro e8 w8 ⟨rfl, rfl⟩; dsimp only))
        go_ret
        exact ⟨rfl, rfl⟩
end Go.Proofs.YtpdnlgopbnkdhaaDoor
namespace Go.Proofs.YtpdnlgopbnkdhaaDoor
open Go.RowKit
/-- May it be a change? -/
def ChOk (c : Ch) : Prop := KeyOk c.key ∧ (c.gone = true → c.val.size = 0) ∧ c.val.size ≤ 40
open Classical in
noncomputable def chN (c : Ch) : Nat := if KeyOk c.key then (if c.gone = true ∧ c.val.size ≠ 0 then 3 else if 40 < c.val.size then 1 else 0) else 3
theorem chN_no {c : Ch} (h : ¬ KeyOk c.key) : chN c = 3 := if_neg h
theorem chN_gone {c : Ch} (h : KeyOk c.key) (h2 : c.gone = true) (h3 : c.val.size ≠ 0) : chN c = 3 := by unfold chN; rw [if_pos h, if_pos ⟨h2, h3⟩]
theorem chN_big {c : Ch} (h : KeyOk c.key) (h2 : c.gone = true → c.val.size = 0) (h3 : 40 < c.val.size) : chN c = 1 := by
  unfold chN; rw [if_pos h, if_neg (fun e => e.2 (h2 e.1)), if_pos h3]
theorem chN_ok {c : Ch} (h : ChOk c) : chN c = 0 := by
  unfold chN; rw [if_pos h.1, if_neg (fun e => e.2 (h.2.1 e.1)), if_neg (by have := h.2.2; omega)]
theorem chN_le (c : Ch) : chN c ≤ 3 := by
  unfold chN; split
  · split
    · omega
    · split <;> omega
  · omega
theorem chN_zero {c : Ch} : chN c = 0 ↔ ChOk c := by
  refine ⟨fun h => ?_, chN_ok⟩
  unfold chN at h
  split at h
  · rename_i h1
    split at h
    · cases h
    · rename_i h2
      split at h
      · cases h
      · rename_i h3
        refine ⟨h1, fun hg => ?_, by omega⟩
        by_cases hv : c.val.size = 0
        · exact hv
        · exact absurd ⟨hg, hv⟩ h2
  · cases h
theorem key_size {k : ByteArray} (h : KeyOk k) : k.size ≤ 15 := by
  rcases h with ⟨a, ha, rfl | rfl⟩ | ⟨q, n, hq, hn, rfl⟩
  · rw [ByteArray.size_append, ByteArray.size_append]; have := ha.2.1; show 1 + 1 + a.size ≤ 15; omega
  · rw [ByteArray.size_append, ByteArray.size_append]; have := ha.2.1; show 1 + 1 + a.size ≤ 15; omega
  · rw [ByteArray.size_append, ByteArray.size_append, ByteArray.size_append, ByteArray.size_append, six_size]; have := hq.2.1; show 1 + 1 + (q.size + 1 + 6) ≤ 15; omega
theorem size_list (d : ByteArray) : d.toList.length = d.size := by rw [ByteArray.toList_eq]; rfl
theorem list_nil {d : ByteArray} : d.toList = [] ↔ d.size = 0 := by rw [← List.length_eq_zero_iff, size_list]
set_option maxHeartbeats 2000000 in
set_option maxRecDepth 100000 in
theorem chCheck_any (c : Ch) (w : World) (h : LibOk w) (hs : c.key.size ≤ 300) (hv : c.val.size ≤ 1000) : Calls Tryd.prog 69 #[c.v] w fun e w' => e = .returned (errV (chN c)) ∧ Ext w w' := by
  have hO := lib_base h
  have hC := fun w h => check_any c.key w h (by omega)
  unfold Ch.v
  by_cases hk : KeyOk c.key
  · rw [keyN_yes hk, show errV 0 = .nilIface from rfl] at hC
    by_cases hg : c.gone = true ∧ c.val.size ≠ 0
    · rw [chN_gone hk hg.1 hg.2]
      have e : errV 3 = .iface 97 (.int .i64 3) := rfl
      rw [e]
      clear e
      have hvl : ¬ c.val.toList = [] := fun e => hg.2 (list_nil.1 e)
      obtain ⟨k, v, g⟩ := c
      obtain ⟨rfl, hg2⟩ := hg
      dsimp only at *
      go_enter Tryd.func69, Tryd.ntmps69
      go_wp2_with (first | (go_at_call 46; (with_reducible apply Calls.mono (hC _ (Own.immOf (φ := LibOk) hO (by repeat (first | with_reducible exact Pick.here _ _ | with_reducible apply Pick.there)))); rintro e8 w8 ⟨rfl, hx8⟩; replace hO := hO.ext hx8; clear hx8; dsimp only; ((try clear hf); have hf := hO.facts; (try simp only [FX, Nat.zero_add, Nat.reduceAdd, and_true, true_and, List.map_cons, List.map_nil, List.cons_append, List.nil_append] at hf)))) | ((first | with_reducible refine wpList_alloc_own hO ?_ | with_reducible refine wpList_drew_own hO ?_ | with_reducible refine wp_alloc_own hO ?_ | with_reducible refine wp_drew_own hO ?_ | with_reducible refine bodyPost_alloc_own hO ?_ | with_reducible refine bodyPost_drew_own hO ?_ | ((first | with_reducible apply wpList_set_own | with_reducible apply wp_set_own | with_reducible apply bodyPost_set_own); (focus (first | (with_reducible apply Own.set; (focus (with_reducible apply hO)); (repeat (first | with_reducible exact Put.here _ _ _ | with_reducible apply Put.there)); done) | (with_reducible apply Own.setRow; (focus (with_reducible apply hO)); (focus (repeat (first | with_reducible exact Put.here _ _ _ | with_reducible apply Put.there))); first | assumption | (simp; omega) | (simp; assumption)) | ((repeat' (first | with_reducible apply hO | with_reducible apply Own.set)); all_goals (repeat (first | with_reducible exact Put.here _ _ _ | with_reducible apply Put.there)); done))))); clear hO; intro w9 hO; (try dsimp only [List.set] at hO); ((try clear hf); have hf := hO.facts; (try simp only [FX, Nat.zero_add, Nat.reduceAdd, and_true, true_and, List.map_cons, List.map_nil, List.cons_append, List.nil_append] at hf))))
      all_goals first | (exfalso; omega) | (go_ret; exact ⟨rfl, hO.toExt⟩) | (exfalso; simp_all; done)
    · have hg' : c.gone = true → c.val.size = 0 := fun e => by
        by_cases hv : c.val.size = 0
        · exact hv
        · exact absurd ⟨e, hv⟩ hg
      by_cases hb : 40 < c.val.size
      · rw [chN_big hk hg' hb]
        have e : errV 1 = .iface 97 (.int .i64 1) := rfl
        rw [e]
        clear e
        obtain ⟨k, v, g⟩ := c
        cases g with
        | true => exact absurd (hg' rfl) (by dsimp only at *; omega)
        | false =>
          clear hg hg'
          dsimp only at *
          go_enter Tryd.func69, Tryd.ntmps69
          go_wp2_with (first | (go_at_call 46; (with_reducible apply Calls.mono (hC _ (Own.immOf (φ := LibOk) hO (by repeat (first | with_reducible exact Pick.here _ _ | with_reducible apply Pick.there)))); rintro e8 w8 ⟨rfl, hx8⟩; replace hO := hO.ext hx8; clear hx8; dsimp only; ((try clear hf); have hf := hO.facts; (try simp only [FX, Nat.zero_add, Nat.reduceAdd, and_true, true_and, List.map_cons, List.map_nil, List.cons_append, List.nil_append] at hf)))) | ((first | with_reducible refine wpList_alloc_own hO ?_ | with_reducible refine wpList_drew_own hO ?_ | with_reducible refine wp_alloc_own hO ?_ | with_reducible refine wp_drew_own hO ?_ | with_reducible refine bodyPost_alloc_own hO ?_ | with_reducible refine bodyPost_drew_own hO ?_ | ((first | with_reducible apply wpList_set_own | with_reducible apply wp_set_own | with_reducible apply bodyPost_set_own); (focus (first | (with_reducible apply Own.set; (focus (with_reducible apply hO)); (repeat (first | with_reducible exact Put.here _ _ _ | with_reducible apply Put.there)); done) | (with_reducible apply Own.setRow; (focus (with_reducible apply hO)); (focus (repeat (first | with_reducible exact Put.here _ _ _ | with_reducible apply Put.there))); first | assumption | (simp; omega) | (simp; assumption)) | ((repeat' (first | with_reducible apply hO | with_reducible apply Own.set)); all_goals (repeat (first | with_reducible exact Put.here _ _ _ | with_reducible apply Put.there)); done))))); clear hO; intro w9 hO; (try dsimp only [List.set] at hO); ((try clear hf); have hf := hO.facts; (try simp only [FX, Nat.zero_add, Nat.reduceAdd, and_true, true_and, List.map_cons, List.map_nil, List.cons_append, List.nil_append] at hf))))
          all_goals first | (exfalso; omega) | (go_ret; exact ⟨rfl, hO.toExt⟩) | (exfalso; simp_all; done)
      · rw [chN_ok ⟨hk, hg', by omega⟩, show errV 0 = .nilIface from rfl]
        obtain ⟨k, v, g⟩ := c
        cases g with
        | true =>
          have hvl : v.toList = [] := list_nil.2 (hg' rfl)
          clear hg hg'
          dsimp only at *
          go_enter Tryd.func69, Tryd.ntmps69
          go_wp2_with (first | (go_at_call 46; (with_reducible apply Calls.mono (hC _ (Own.immOf (φ := LibOk) hO (by repeat (first | with_reducible exact Pick.here _ _ | with_reducible apply Pick.there)))); rintro e8 w8 ⟨rfl, hx8⟩; replace hO := hO.ext hx8; clear hx8; dsimp only; ((try clear hf); have hf := hO.facts; (try simp only [FX, Nat.zero_add, Nat.reduceAdd, and_true, true_and, List.map_cons, List.map_nil, List.cons_append, List.nil_append] at hf)))) | ((first | with_reducible refine wpList_alloc_own hO ?_ | with_reducible refine wpList_drew_own hO ?_ | with_reducible refine wp_alloc_own hO ?_ | with_reducible refine wp_drew_own hO ?_ | with_reducible refine bodyPost_alloc_own hO ?_ | with_reducible refine bodyPost_drew_own hO ?_ | ((first | with_reducible apply wpList_set_own | with_reducible apply wp_set_own | with_reducible apply bodyPost_set_own); (focus (first | (with_reducible apply Own.set; (focus (with_reducible apply hO)); (repeat (first | with_reducible exact Put.here _ _ _ | with_reducible apply Put.there)); done) | (with_reducible apply Own.setRow; (focus (with_reducible apply hO)); (focus (repeat (first | with_reducible exact Put.here _ _ _ | with_reducible apply Put.there))); first | assumption | (simp; omega) | (simp; assumption)) | ((repeat' (first | with_reducible apply hO | with_reducible apply Own.set)); all_goals (repeat (first | with_reducible exact Put.here _ _ _ | with_reducible apply Put.there)); done))))); clear hO; intro w9 hO; (try dsimp only [List.set] at hO); ((try clear hf); have hf := hO.facts; (try simp only [FX, Nat.zero_add, Nat.reduceAdd, and_true, true_and, List.map_cons, List.map_nil, List.cons_append, List.nil_append] at hf))))
          all_goals first | (exfalso; omega) | (go_ret; exact ⟨rfl, hO.toExt⟩) | (exfalso; simp_all; done)
        | false =>
          clear hg hg'
          dsimp only at *
          go_enter Tryd.func69, Tryd.ntmps69
          go_wp2_with (first | (go_at_call 46; (with_reducible apply Calls.mono (hC _ (Own.immOf (φ := LibOk) hO (by repeat (first | with_reducible exact Pick.here _ _ | with_reducible apply Pick.there)))); rintro e8 w8 ⟨rfl, hx8⟩; replace hO := hO.ext hx8; clear hx8; dsimp only; ((try clear hf); have hf := hO.facts; (try simp only [FX, Nat.zero_add, Nat.reduceAdd, and_true, true_and, List.map_cons, List.map_nil, List.cons_append, List.nil_append] at hf)))) | ((first | with_reducible refine wpList_alloc_own hO ?_ | with_reducible refine wpList_drew_own hO ?_ | with_reducible refine wp_alloc_own hO ?_ | with_reducible refine wp_drew_own hO ?_ | with_reducible refine bodyPost_alloc_own hO ?_ | with_reducible refine bodyPost_drew_own hO ?_ | ((first | with_reducible apply wpList_set_own | with_reducible apply wp_set_own | with_reducible apply bodyPost_set_own); (focus (first | (with_reducible apply Own.set; (focus (with_reducible apply hO)); (repeat (first | with_reducible exact Put.here _ _ _ | with_reducible apply Put.there)); done) | (with_reducible apply Own.setRow; (focus (with_reducible apply hO)); (focus (repeat (first | with_reducible exact Put.here _ _ _ | with_reducible apply Put.there))); first | assumption | (simp; omega) | (simp; assumption)) | ((repeat' (first | with_reducible apply hO | with_reducible apply Own.set)); all_goals (repeat (first | with_reducible exact Put.here _ _ _ | with_reducible apply Put.there)); done))))); clear hO; intro w9 hO; (try dsimp only [List.set] at hO); ((try clear hf); have hf := hO.facts; (try simp only [FX, Nat.zero_add, Nat.reduceAdd, and_true, true_and, List.map_cons, List.map_nil, List.cons_append, List.nil_append] at hf))))
          all_goals first | (exfalso; omega) | (go_ret; exact ⟨rfl, hO.toExt⟩) | (exfalso; simp_all; done)
  · rw [chN_no hk]
    rw [keyN_no hk] at hC
    have e : errV 3 = .iface 97 (.int .i64 3) := rfl
    rw [e] at hC ⊢
    clear e
    go_enter Tryd.func69, Tryd.ntmps69
    go_wp2_with (first | (go_at_call 46; (with_reducible apply Calls.mono (hC _ (Own.immOf (φ := LibOk) hO (by repeat (first | with_reducible exact Pick.here _ _ | with_reducible apply Pick.there)))); rintro e8 w8 ⟨rfl, hx8⟩; replace hO := hO.ext hx8; clear hx8; dsimp only; ((try clear hf); have hf := hO.facts; (try simp only [FX, Nat.zero_add, Nat.reduceAdd, and_true, true_and, List.map_cons, List.map_nil, List.cons_append, List.nil_append] at hf)))) | ((first | with_reducible refine wpList_alloc_own hO ?_ | with_reducible refine wpList_drew_own hO ?_ | with_reducible refine wp_alloc_own hO ?_ | with_reducible refine wp_drew_own hO ?_ | with_reducible refine bodyPost_alloc_own hO ?_ | with_reducible refine bodyPost_drew_own hO ?_ | ((first | with_reducible apply wpList_set_own | with_reducible apply wp_set_own | with_reducible apply bodyPost_set_own); (focus (first | (with_reducible apply Own.set; (focus (with_reducible apply hO)); (repeat (first | with_reducible exact Put.here _ _ _ | with_reducible apply Put.there)); done) | (with_reducible apply Own.setRow; (focus (with_reducible apply hO)); (focus (repeat (first | with_reducible exact Put.here _ _ _ | with_reducible apply Put.there))); first | assumption | (simp; omega) | (simp; assumption)) | ((repeat' (first | with_reducible apply hO | with_reducible apply Own.set)); all_goals (repeat (first | with_reducible exact Put.here _ _ _ | with_reducible apply Put.there)); done))))); clear hO; intro w9 hO; (try dsimp only [List.set] at hO); ((try clear hf); have hf := hO.facts; (try simp only [FX, Nat.zero_add, Nat.reduceAdd, and_true, true_and, List.map_cons, List.map_nil, List.cons_append, List.nil_append] at hf))))
    all_goals first | (exfalso; omega) | (go_ret; exact ⟨rfl, hO.toExt⟩) | (exfalso; simp_all; done)
end Go.Proofs.YtpdnlgopbnkdhaaDoor
namespace Go.Proofs.YtpdnlgopbnkdhaaDoor
open Go.RowKit
set_option maxHeartbeats 2000000 in
set_option maxRecDepth 100000 in
theorem chFault_any (c : Ch) (w : World) (hs : c.key.size ≤ 300) (hv : c.val.size ≤ 1000) : Calls Tryd.prog 68 #[c.v] w fun e w' => e = .returned (.int .i64 (chN c)) ∧ Ext w w' := by
  have hO := Own.start w (fun _ => False)
  have hC := fun w => keyFault_any c.key w hs
  unfold Ch.v
  by_cases hk : KeyOk c.key
  · rw [keyN_yes hk] at hC
    by_cases hg : c.gone = true ∧ c.val.size ≠ 0
    · rw [chN_gone hk hg.1 hg.2]
      have hvl : ¬ c.val.toList = [] := fun e => hg.2 (list_nil.1 e)
      obtain ⟨k, v, g⟩ := c
      obtain ⟨rfl, hg2⟩ := hg
      dsimp only at *
      go_enter Tryd.func68, Tryd.ntmps68
      go_wp2_with (first | (go_at_call 75; (with_reducible apply Calls.mono (hC _); rintro e8 w8 ⟨rfl, rfl⟩; dsimp only)) | ((first | with_reducible refine wpList_alloc_own hO ?_ | with_reducible refine wpList_drew_own hO ?_ | with_reducible refine wp_alloc_own hO ?_ | with_reducible refine wp_drew_own hO ?_ | with_reducible refine bodyPost_alloc_own hO ?_ | with_reducible refine bodyPost_drew_own hO ?_ | ((first | with_reducible apply wpList_set_own | with_reducible apply wp_set_own | with_reducible apply bodyPost_set_own); (focus (first | (with_reducible apply Own.set; (focus (with_reducible apply hO)); (repeat (first | with_reducible exact Put.here _ _ _ | with_reducible apply Put.there)); done) | (with_reducible apply Own.setRow; (focus (with_reducible apply hO)); (focus (repeat (first | with_reducible exact Put.here _ _ _ | with_reducible apply Put.there))); first | assumption | (simp; omega) | (simp; assumption)) | ((repeat' (first | with_reducible apply hO | with_reducible apply Own.set)); all_goals (repeat (first | with_reducible exact Put.here _ _ _ | with_reducible apply Put.there)); done))))); clear hO; intro w9 hO; (try dsimp only [List.set] at hO); ((try clear hf); have hf := hO.facts; (try simp only [FX, Nat.zero_add, Nat.reduceAdd, and_true, true_and, List.map_cons, List.map_nil, List.cons_append, List.nil_append] at hf))))
      all_goals first | (exfalso; omega) | (go_ret; exact ⟨rfl, hO.toExt⟩) | (exfalso; simp_all; done)
    · have hg' : c.gone = true → c.val.size = 0 := fun e => by
        by_cases hv : c.val.size = 0
        · exact hv
        · exact absurd ⟨e, hv⟩ hg
      by_cases hb : 40 < c.val.size
      · rw [chN_big hk hg' hb]
        obtain ⟨k, v, g⟩ := c
        cases g with
        | true => exact absurd (hg' rfl) (by dsimp only at *; omega)
        | false =>
          clear hg hg'
          dsimp only at *
          go_enter Tryd.func68, Tryd.ntmps68
          go_wp2_with (first | (go_at_call 75; (with_reducible apply Calls.mono (hC _); rintro e8 w8 ⟨rfl, rfl⟩; dsimp only)) | ((first | with_reducible refine wpList_alloc_own hO ?_ | with_reducible refine wpList_drew_own hO ?_ | with_reducible refine wp_alloc_own hO ?_ | with_reducible refine wp_drew_own hO ?_ | with_reducible refine bodyPost_alloc_own hO ?_ | with_reducible refine bodyPost_drew_own hO ?_ | ((first | with_reducible apply wpList_set_own | with_reducible apply wp_set_own | with_reducible apply bodyPost_set_own); (focus (first | (with_reducible apply Own.set; (focus (with_reducible apply hO)); (repeat (first | with_reducible exact Put.here _ _ _ | with_reducible apply Put.there)); done) | (with_reducible apply Own.setRow; (focus (with_reducible apply hO)); (focus (repeat (first | with_reducible exact Put.here _ _ _ | with_reducible apply Put.there))); first | assumption | (simp; omega) | (simp; assumption)) | ((repeat' (first | with_reducible apply hO | with_reducible apply Own.set)); all_goals (repeat (first | with_reducible exact Put.here _ _ _ | with_reducible apply Put.there)); done))))); clear hO; intro w9 hO; (try dsimp only [List.set] at hO); ((try clear hf); have hf := hO.facts; (try simp only [FX, Nat.zero_add, Nat.reduceAdd, and_true, true_and, List.map_cons, List.map_nil, List.cons_append, List.nil_append] at hf))))
          all_goals first | (exfalso; omega) | (go_ret; exact ⟨rfl, hO.toExt⟩) | (exfalso; simp_all; done)
      · rw [chN_ok ⟨hk, hg', by omega⟩]
        obtain ⟨k, v, g⟩ := c
        cases g with
        | true =>
          have hvl : v.toList = [] := list_nil.2 (hg' rfl)
          clear hg hg'
          dsimp only at *
          go_enter Tryd.func68, Tryd.ntmps68
          go_wp2_with (first | (go_at_call 75; (with_reducible apply Calls.mono (hC _); rintro e8 w8 ⟨rfl, rfl⟩; dsimp only)) | ((first | with_reducible refine wpList_alloc_own hO ?_ | with_reducible refine wpList_drew_own hO ?_ | with_reducible refine wp_alloc_own hO ?_ | with_reducible refine wp_drew_own hO ?_ | with_reducible refine bodyPost_alloc_own hO ?_ | with_reducible refine bodyPost_drew_own hO ?_ | ((first | with_reducible apply wpList_set_own | with_reducible apply wp_set_own | with_reducible apply bodyPost_set_own); (focus (first | (with_reducible apply Own.set; (focus (with_reducible apply hO)); (repeat (first | with_reducible exact Put.here _ _ _ | with_reducible apply Put.there)); done) | (with_reducible apply Own.setRow; (focus (with_reducible apply hO)); (focus (repeat (first | with_reducible exact Put.here _ _ _ | with_reducible apply Put.there))); first | assumption | (simp; omega) | (simp; assumption)) | ((repeat' (first | with_reducible apply hO | with_reducible apply Own.set)); all_goals (repeat (first | with_reducible exact Put.here _ _ _ | with_reducible apply Put.there)); done))))); clear hO; intro w9 hO; (try dsimp only [List.set] at hO); ((try clear hf); have hf := hO.facts; (try simp only [FX, Nat.zero_add, Nat.reduceAdd, and_true, true_and, List.map_cons, List.map_nil, List.cons_append, List.nil_append] at hf))))
          all_goals first | (exfalso; omega) | (go_ret; exact ⟨rfl, hO.toExt⟩) | (exfalso; simp_all; done)
        | false =>
          clear hg hg'
          dsimp only at *
          go_enter Tryd.func68, Tryd.ntmps68
          go_wp2_with (first | (go_at_call 75; (with_reducible apply Calls.mono (hC _); rintro e8 w8 ⟨rfl, rfl⟩; dsimp only)) | ((first | with_reducible refine wpList_alloc_own hO ?_ | with_reducible refine wpList_drew_own hO ?_ | with_reducible refine wp_alloc_own hO ?_ | with_reducible refine wp_drew_own hO ?_ | with_reducible refine bodyPost_alloc_own hO ?_ | with_reducible refine bodyPost_drew_own hO ?_ | ((first | with_reducible apply wpList_set_own | with_reducible apply wp_set_own | with_reducible apply bodyPost_set_own); (focus (first | (with_reducible apply Own.set; (focus (with_reducible apply hO)); (repeat (first | with_reducible exact Put.here _ _ _ | with_reducible apply Put.there)); done) | (with_reducible apply Own.setRow; (focus (with_reducible apply hO)); (focus (repeat (first | with_reducible exact Put.here _ _ _ | with_reducible apply Put.there))); first | assumption | (simp; omega) | (simp; assumption)) | ((repeat' (first | with_reducible apply hO | with_reducible apply Own.set)); all_goals (repeat (first | with_reducible exact Put.here _ _ _ | with_reducible apply Put.there)); done))))); clear hO; intro w9 hO; (try dsimp only [List.set] at hO); ((try clear hf); have hf := hO.facts; (try simp only [FX, Nat.zero_add, Nat.reduceAdd, and_true, true_and, List.map_cons, List.map_nil, List.cons_append, List.nil_append] at hf))))
          all_goals first | (exfalso; omega) | (go_ret; exact ⟨rfl, hO.toExt⟩) | (exfalso; simp_all; done)
  · rw [chN_no hk]
    rw [keyN_no hk] at hC
    go_enter Tryd.func68, Tryd.ntmps68
    go_wp2_with (first | (go_at_call 75; (with_reducible apply Calls.mono (hC _); rintro e8 w8 ⟨rfl, rfl⟩; dsimp only)) | ((first | with_reducible refine wpList_alloc_own hO ?_ | with_reducible refine wpList_drew_own hO ?_ | with_reducible refine wp_alloc_own hO ?_ | with_reducible refine wp_drew_own hO ?_ | with_reducible refine bodyPost_alloc_own hO ?_ | with_reducible refine bodyPost_drew_own hO ?_ | ((first | with_reducible apply wpList_set_own | with_reducible apply wp_set_own | with_reducible apply bodyPost_set_own); (focus (first | (with_reducible apply Own.set; (focus (with_reducible apply hO)); (repeat (first | with_reducible exact Put.here _ _ _ | with_reducible apply Put.there)); done) | (with_reducible apply Own.setRow; (focus (with_reducible apply hO)); (focus (repeat (first | with_reducible exact Put.here _ _ _ | with_reducible apply Put.there))); first | assumption | (simp; omega) | (simp; assumption)) | ((repeat' (first | with_reducible apply hO | with_reducible apply Own.set)); all_goals (repeat (first | with_reducible exact Put.here _ _ _ | with_reducible apply Put.there)); done))))); clear hO; intro w9 hO; (try dsimp only [List.set] at hO); ((try clear hf); have hf := hO.facts; (try simp only [FX, Nat.zero_add, Nat.reduceAdd, and_true, true_and, List.map_cons, List.map_nil, List.cons_append, List.nil_append] at hf))))
    all_goals first | (exfalso; omega) | (go_ret; exact ⟨rfl, hO.toExt⟩) | (exfalso; simp_all; done)
/-- A change's bytes. -/
def bytesC (c : Ch) : ByteArray := ⟨#[if c.gone then 1 else 0, UInt8.ofNat c.key.size]⟩ ++ c.key ++ c.val
theorem push_two (a b : Int) : ([a, b] : List Int).foldl (fun r n => r.push (UInt8.ofNat n.toNat)) ByteArray.empty = ⟨#[UInt8.ofNat a.toNat, UInt8.ofNat b.toNat]⟩ := rfl
set_option maxHeartbeats 2000000 in
set_option maxRecDepth 100000 in
theorem bytes_no (c : Ch) (w : World) (h : LibOk w) (hs : c.key.size ≤ 200) (hv : c.val.size ≤ 1000) (hc : ¬ ChOk c) : Calls Tryd.prog 93 #[c.v] w fun e w' => e = .returned (.tuple #[.string ⟨#[]⟩, errV (chN c)]) ∧ Ext w w' := by
  have hO := lib_base h
  have hC := fun w h => chCheck_any c w h (by omega) hv
  have h0 : chN c ≠ 0 := fun e => hc (chN_zero.1 e)
  obtain ⟨m, hm⟩ : ∃ m, chN c = m + 1 := ⟨chN c - 1, by omega⟩
  rw [hm] at hC ⊢
  have e : errV (m + 1) = .iface 97 (.int .i64 ((m + 1 : Nat) : Int)) := rfl
  rw [e] at hC ⊢
  clear e hm h0
  unfold Ch.v at *
  go_enter Tryd.func93, Tryd.ntmps93
  go_wp2_with (first | (go_at_call 69; (with_reducible apply Calls.mono (hC _ (Own.immOf (φ := LibOk) hO (by repeat (first | with_reducible exact Pick.here _ _ | with_reducible apply Pick.there)))); rintro e8 w8 ⟨rfl, hx8⟩; replace hO := hO.ext hx8; clear hx8; dsimp only; ((try clear hf); have hf := hO.facts; (try simp only [FX, Nat.zero_add, Nat.reduceAdd, and_true, true_and, List.map_cons, List.map_nil, List.cons_append, List.nil_append] at hf)))) | ((first | with_reducible refine wpList_alloc_own hO ?_ | with_reducible refine wpList_drew_own hO ?_ | with_reducible refine wp_alloc_own hO ?_ | with_reducible refine wp_drew_own hO ?_ | with_reducible refine bodyPost_alloc_own hO ?_ | with_reducible refine bodyPost_drew_own hO ?_ | ((first | with_reducible apply wpList_set_own | with_reducible apply wp_set_own | with_reducible apply bodyPost_set_own); (focus (first | (with_reducible apply Own.set; (focus (with_reducible apply hO)); (repeat (first | with_reducible exact Put.here _ _ _ | with_reducible apply Put.there)); done) | (with_reducible apply Own.setRow; (focus (with_reducible apply hO)); (focus (repeat (first | with_reducible exact Put.here _ _ _ | with_reducible apply Put.there))); first | assumption | (simp; omega) | (simp; assumption)) | ((repeat' (first | with_reducible apply hO | with_reducible apply Own.set)); all_goals (repeat (first | with_reducible exact Put.here _ _ _ | with_reducible apply Put.there)); done))))); clear hO; intro w9 hO; (try dsimp only [List.set] at hO); ((try clear hf); have hf := hO.facts; (try simp only [FX, Nat.zero_add, Nat.reduceAdd, and_true, true_and, List.map_cons, List.map_nil, List.cons_append, List.nil_append] at hf))))
  go_ret2
  exact ⟨rfl, hO.toExt⟩
set_option maxHeartbeats 2000000 in
set_option maxRecDepth 100000 in
theorem bytes_ok (c : Ch) (w : World) (h : LibOk w) (hs : c.key.size ≤ 200) (hv : c.val.size ≤ 1000) (hc : ChOk c) : Calls Tryd.prog 93 #[c.v] w fun e w' => e = .returned (.tuple #[.string (bytesC c), errV 0]) ∧ Ext w w' := by
  have hks := key_size hc.1
  have hO := lib_base h; have hC := fun w h => chCheck_any c w h (by omega) hv
  rw [chN_ok hc] at hC
  try rw [show errV 0 = .nilIface from rfl] at hC
  obtain ⟨x, hx⟩ : ∃ x, x = (⟨#[if c.gone then 1 else 0, UInt8.ofNat c.key.size]⟩ : ByteArray) := ⟨_, rfl⟩
  have hxs : x.size = 2 := by rw [hx]; rfl
  have hfin : bytesC c = x ++ c.key ++ c.val := by rw [hx]; rfl
  rw [hfin]
  clear hfin
  have HX := Lib.hid hx
  clear hx hc
  unfold Ch.v at *
  obtain ⟨k, v, g⟩ := c
  dsimp only at *
  have hm : ((k.size : Int) % 256) = k.size := by omega
  cases g with
  | true =>
    have HY : (⟨#[UInt8.ofNat (1 : Int).toNat, UInt8.ofNat (k.size : Int).toNat]⟩ : ByteArray) = x := HX.out.symm
    go_enter Tryd.func93, Tryd.ntmps93
    go_wp2_with (first | (go_at_call 69; (with_reducible apply Calls.mono (hC _ (Own.immOf (φ := LibOk) hO (by repeat (first | with_reducible exact Pick.here _ _ | with_reducible apply Pick.there)))); rintro e8 w8 ⟨rfl, hx8⟩; replace hO := hO.ext hx8; clear hx8; dsimp only; ((try clear hf); have hf := hO.facts; (try simp only [FX, Nat.zero_add, Nat.reduceAdd, and_true, true_and, List.map_cons, List.map_nil, List.cons_append, List.nil_append] at hf)))) | ((refine wpList_bytes_own4 hO (r := Var _ [.int .u8 1, .int .u8 (k.size : Int)] 5) (by repeat (first | with_reducible exact Pick.here _ _ | with_reducible apply Pick.there)) rfl (.tmp 18) 149 9 5 rfl Tryd.underlying149 Tryd.intU8 Tryd.underlying9 _ 0 2 2 [1, (k.size : Int)] rfl rfl (fun j u hj => Var.at (t := 5) (hO.factOf (r := Var _ [.int .u8 1, .int .u8 (k.size : Int)] 5) (by repeat (first | with_reducible exact Pick.here _ _ | with_reducible apply Pick.there))) j u hj) ?_; rw [push_two]); rw [HY]) | ((first | with_reducible refine wpList_alloc_own hO ?_ | with_reducible refine wpList_drew_own hO ?_ | with_reducible refine wp_alloc_own hO ?_ | with_reducible refine wp_drew_own hO ?_ | with_reducible refine bodyPost_alloc_own hO ?_ | with_reducible refine bodyPost_drew_own hO ?_ | ((first | with_reducible apply wpList_set_own | with_reducible apply wp_set_own | with_reducible apply bodyPost_set_own); (focus (first | (with_reducible apply Own.set; (focus (with_reducible apply hO)); (repeat (first | with_reducible exact Put.here _ _ _ | with_reducible apply Put.there)); done) | (with_reducible apply Own.setRow; (focus (with_reducible apply hO)); (focus (repeat (first | with_reducible exact Put.here _ _ _ | with_reducible apply Put.there))); first | assumption | (simp; omega) | (simp; assumption)) | ((repeat' (first | with_reducible apply hO | with_reducible apply Own.set)); all_goals (repeat (first | with_reducible exact Put.here _ _ _ | with_reducible apply Put.there)); done))))); clear hO; intro w9 hO; (try dsimp only [List.set] at hO); ((try clear hf); have hf := hO.facts; (try simp only [FX, Nat.zero_add, Nat.reduceAdd, and_true, true_and, List.map_cons, List.map_nil, List.cons_append, List.nil_append] at hf))))
    go_ret2
    exact ⟨rfl, hO.toExt⟩
  | false =>
    have HY : (⟨#[UInt8.ofNat (0 : Int).toNat, UInt8.ofNat (k.size : Int).toNat]⟩ : ByteArray) = x := HX.out.symm
    go_enter Tryd.func93, Tryd.ntmps93
    go_wp2_with (first | (go_at_call 69; (with_reducible apply Calls.mono (hC _ (Own.immOf (φ := LibOk) hO (by repeat (first | with_reducible exact Pick.here _ _ | with_reducible apply Pick.there)))); rintro e8 w8 ⟨rfl, hx8⟩; replace hO := hO.ext hx8; clear hx8; dsimp only; ((try clear hf); have hf := hO.facts; (try simp only [FX, Nat.zero_add, Nat.reduceAdd, and_true, true_and, List.map_cons, List.map_nil, List.cons_append, List.nil_append] at hf)))) | ((refine wpList_bytes_own4 hO (r := Var _ [.int .u8 0, .int .u8 (k.size : Int)] 5) (by repeat (first | with_reducible exact Pick.here _ _ | with_reducible apply Pick.there)) rfl (.tmp 18) 149 9 5 rfl Tryd.underlying149 Tryd.intU8 Tryd.underlying9 _ 0 2 2 [0, (k.size : Int)] rfl rfl (fun j u hj => Var.at (t := 5) (hO.factOf (r := Var _ [.int .u8 0, .int .u8 (k.size : Int)] 5) (by repeat (first | with_reducible exact Pick.here _ _ | with_reducible apply Pick.there))) j u hj) ?_; rw [push_two]); rw [HY]) | ((first | with_reducible refine wpList_alloc_own hO ?_ | with_reducible refine wpList_drew_own hO ?_ | with_reducible refine wp_alloc_own hO ?_ | with_reducible refine wp_drew_own hO ?_ | with_reducible refine bodyPost_alloc_own hO ?_ | with_reducible refine bodyPost_drew_own hO ?_ | ((first | with_reducible apply wpList_set_own | with_reducible apply wp_set_own | with_reducible apply bodyPost_set_own); (focus (first | (with_reducible apply Own.set; (focus (with_reducible apply hO)); (repeat (first | with_reducible exact Put.here _ _ _ | with_reducible apply Put.there)); done) | (with_reducible apply Own.setRow; (focus (with_reducible apply hO)); (focus (repeat (first | with_reducible exact Put.here _ _ _ | with_reducible apply Put.there))); first | assumption | (simp; omega) | (simp; assumption)) | ((repeat' (first | with_reducible apply hO | with_reducible apply Own.set)); all_goals (repeat (first | with_reducible exact Put.here _ _ _ | with_reducible apply Put.there)); done))))); clear hO; intro w9 hO; (try dsimp only [List.set] at hO); ((try clear hf); have hf := hO.facts; (try simp only [FX, Nat.zero_add, Nat.reduceAdd, and_true, true_and, List.map_cons, List.map_nil, List.cons_append, List.nil_append] at hf))))
    go_ret2
    exact ⟨rfl, hO.toExt⟩

end Go.Proofs.YtpdnlgopbnkdhaaDoor
