/- Words of a text, as lists of bytes. No program. -/
import Derived.Test.YtmjdgcgmlgbfjaaDoorRow3
set_option linter.unusedVariables false
set_option linter.unusedSimpArgs false
namespace Go.Proofs.YtmjdgcgmlgbfjaaDoor
open Go.RowKit
/-- Words, a blank between them. -/
def joinL : List (List UInt8) → List UInt8
  | [] => []
  | [x] => x
  | x :: y :: r => x ++ 32 :: joinL (y :: r)
def noSp (x : List UInt8) : Prop := (32 : UInt8) ∉ x
/-- The words of a text. -/
def wordsL : List UInt8 → List (List UInt8)
  | [] => [[]]
  | c :: r => if c = 32 then [] :: wordsL r else match wordsL r with
    | [] => [[c]]
    | w :: ws => (c :: w) :: ws
theorem wordsL_ne : ∀ l, wordsL l ≠ []
  | [] => by simp [wordsL]
  | c :: r => by
    unfold wordsL
    split
    · simp
    · split <;> simp
theorem wordsL_nosp : ∀ (l x : List UInt8), noSp x → wordsL x = [x]
  | _, [], _ => rfl
  | l, c :: r, h => by
    have hc : c ≠ 32 := fun e => h (e ▸ List.mem_cons_self ..)
    have ih := wordsL_nosp l r (fun hm => h (List.mem_cons_of_mem _ hm))
    unfold wordsL
    rw [if_neg hc, ih]
theorem wordsL_app : ∀ (x r : List UInt8), noSp x → wordsL (x ++ 32 :: r) = x :: wordsL r
  | [], r, _ => by simp [wordsL]
  | c :: x, r, h => by
    have hc : c ≠ 32 := fun e => h (e ▸ List.mem_cons_self ..)
    have ih := wordsL_app x r (fun hm => h (List.mem_cons_of_mem _ hm))
    rw [List.cons_append]
    conv => lhs; unfold wordsL
    rw [if_neg hc, ih]
theorem wordsL_all (l : List UInt8) : ∀ x ∈ wordsL l, noSp x := by
  induction l with
  | nil => intro x hx; simp [wordsL] at hx; subst hx; simp [noSp]
  | cons c r ih =>
    intro x hx
    unfold wordsL at hx
    split at hx
    · rcases List.mem_cons.1 hx with rfl | hx
      · simp [noSp]
      · exact ih x hx
    · rename_i hc
      cases hw : wordsL r with
      | nil => exact absurd hw (wordsL_ne r)
      | cons w ws =>
        rw [hw] at hx ih
        rcases List.mem_cons.1 hx with rfl | hx
        · intro hm
          rcases List.mem_cons.1 hm with h | h
          · exact hc h.symm
          · exact ih w (List.mem_cons_self ..) h
        · exact ih x (List.mem_cons_of_mem _ hx)
theorem wordsL_join (l : List UInt8) : joinL (wordsL l) = l := by
  induction l with
  | nil => rfl
  | cons c r ih =>
    cases hw : wordsL r with
    | nil => exact absurd hw (wordsL_ne r)
    | cons w ws =>
      rw [hw] at ih
      unfold wordsL
      by_cases hc : c = 32
      · rw [if_pos hc, hw]
        show [] ++ 32 :: joinL (w :: ws) = _
        rw [ih, hc]; rfl
      · rw [if_neg hc, hw]
        cases ws with
        | nil => rw [← ih]; rfl
        | cons y ws =>
          show (c :: w) ++ 32 :: joinL (y :: ws) = _
          rw [← ih]; rfl
/-- Just three words. -/
theorem words3 (l x y z : List UInt8) : wordsL l = [x, y, z] ↔ l = x ++ 32 :: (y ++ 32 :: z) ∧ noSp x ∧ noSp y ∧ noSp z := by
  constructor
  · intro h
    have h1 := wordsL_join l
    have h2 := wordsL_all l
    rw [h] at h1 h2
    exact ⟨h1.symm, h2 x (by simp), h2 y (by simp), h2 z (by simp)⟩
  · rintro ⟨rfl, h1, h2, h3⟩
    rw [wordsL_app x _ h1, wordsL_app y _ h2, wordsL_nosp z z h3]
/-- The library's split is the words. -/
theorem split_words (s : ByteArray) : (Lib.splitB sp 0 (Lib.countB s sp) s).map (·.data.toList) = wordsL s.data.toList := by
  have main : ∀ (ws : List (List UInt8)) (s : ByteArray), wordsL s.data.toList = ws → (Lib.splitB sp 0 (Lib.countB s sp) s).map (·.data.toList) = ws := by
    intro ws
    induction ws with
    | nil => intro s h; exact absurd h (wordsL_ne _)
    | cons x r ih =>
      intro s h
      have hj := wordsL_join s.data.toList
      have ha := wordsL_all s.data.toList
      rw [h] at hj ha
      have hx : noSp x := ha x (by simp)
      cases r with
      | nil =>
        have hs : s.data.toList = x := hj.symm
        have hns : (32 : UInt8) ∉ s.data.toList := by rw [hs]; exact hx
        rw [Lib.splitB_miss _ _ _ _ (indexB_miss s hns)]
        simp [hs]
      | cons y r =>
        have hs : s.data.toList = x ++ 32 :: joinL (y :: r) := hj.symm
        have e : s = ⟨x.toArray⟩ ++ sp ++ ⟨(joinL (y :: r)).toArray⟩ := ba_ext (by rw [app_data, app_data, hs, List.append_assoc]; rfl)
        have hxs : (32 : UInt8) ∉ (⟨x.toArray⟩ : ByteArray).data.toList := by simpa [noSp] using hx
        have hw : wordsL (joinL (y :: r)) = y :: r := by
          rw [hs, wordsL_app x _ hx] at h
          injection h
        rw [e, count_hit' _ _ hxs, Nat.add_comm, split_hit _ _ _ hxs, List.map_cons, ih ⟨(joinL (y :: r)).toArray⟩ (by simpa using hw)]
  exact main _ s rfl
end Go.Proofs.YtmjdgcgmlgbfjaaDoor
