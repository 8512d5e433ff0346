/- Texts Ver5, VerP, Ver6 of this claim, laid together. -/
import Derived.Test.YtagcmjmcjpjihaaGreatDoorGTopCountProof19
import Derived.Test.YtagcmjmcjpjihaaGreatDoorGTopCountProof14
set_option linter.unusedVariables false
set_option linter.unusedSimpArgs false
namespace Go.Proofs.YtagcmjmcjpjihaaGreatDoor
open Go.RowKit
end Go.Proofs.YtagcmjmcjpjihaaGreatDoor
namespace Go.Proofs.YtagcmjmcjpjihaaGreatDoor
def skipV (n : Int) : List Vn → List Vn
  | [] => []
  | x :: l => match l with
    | [] => [x]
    | y :: _ => if (y.n : Int) ≤ n then skipV n l else x :: l
def cutV (n : Int) : List Vn → List Vn
  | [] => []
  | x :: l => if x.gone = true ∧ (x.n : Int) ≤ n then l else x :: l
def vacOne (n : Int) (vs : List Vn) : List Vn := cutV n (skipV n vs)
def vacV (n : Int) : List (ByteArray × List Vn) → List (ByteArray × List Vn)
  | [] => []
  | e :: V => if vacOne n e.2 = [] then vacV n V else (e.1, vacOne n e.2) :: vacV n V
/-- The map's entries while it is ranged over: those of 'seen' are done. -/
inductive Vac (n : Int) (seen : List Nat) : List VE → List VE → Prop
  | nil : Vac n seen [] []
  | keep {e : VE} {l l' : List VE} : e.born ∉ seen → Vac n seen l l' → Vac n seen (e :: l) (e :: l')
  | drop {e : VE} {l l' : List VE} : e.born ∈ seen → vacOne n e.vs = [] → Vac n seen l l' → Vac n seen (e :: l) l'
  | turn {e e' : VE} {l l' : List VE} : e.born ∈ seen → e'.key = e.key → e'.born = e.born → e'.vs = vacOne n e.vs → vacOne n e.vs ≠ [] → Vac n seen l l' → Vac n seen (e :: l) (e' :: l')
theorem Vac.start (n : Int) : ∀ L : List VE, Vac n [] L L
  | [] => .nil
  | _ :: l => .keep (List.not_mem_nil) (Vac.start n l)
theorem Vac.keys {n : Int} {seen : List Nat} {L L' : List VE} (h : Vac n seen L L') : (L'.map VE.key).Sublist (L.map VE.key) := by
  induction h with
  | nil => exact .slnil
  | keep _ _ ih => exact ih.cons_cons _
  | drop _ _ _ ih => exact ih.cons _
  | turn _ hk _ _ _ _ ih => rw [List.map_cons, List.map_cons, hk]; exact ih.cons_cons _
theorem Vac.borns {n : Int} {seen : List Nat} {L L' : List VE} (h : Vac n seen L L') : (L'.map VE.born).Sublist (L.map VE.born) := by
  induction h with
  | nil => exact .slnil
  | keep _ _ ih => exact ih.cons_cons _
  | drop _ _ _ ih => exact ih.cons _
  | turn _ _ hb _ _ _ ih => rw [List.map_cons, List.map_cons, hb]; exact ih.cons_cons _
theorem Vac.ok {n : Int} {seen : List Nat} {L L' : List VE} {clock : Nat} (h : Vac n seen L L') (hok : VesOk L clock) : VesOk L' clock where
  keys := h.keys.nodup hok.keys
  borns := h.borns.nodup hok.borns
  lt := fun e he => by
    obtain ⟨x, hx, hb⟩ := List.mem_map.1 (h.borns.subset (List.mem_map.2 ⟨e, he, rfl⟩))
    rw [← hb]; exact hok.lt x hx
theorem Vac.all {n : Int} {seen : List Nat} {L L' : List VE} (h : Vac n seen L L') (ha : ∀ e ∈ L', e.born ∈ seen) : L'.map VE.kv = vacV n (L.map VE.kv) := by
  induction h with
  | nil => rfl
  | keep h1 _ ih => exact absurd (ha _ (List.mem_cons_self ..)) h1
  | drop _ h2 _ ih =>
    rw [List.map_cons, vacV, if_pos (show vacOne n (VE.kv _).2 = [] from h2)]
    exact ih ha
  | turn _ hk _ hv hne _ ih =>
    rw [List.map_cons, List.map_cons, vacV, if_neg (show ¬ vacOne n (VE.kv _).2 = [] from hne), ih fun e he => ha e (List.mem_cons_of_mem _ he)]
    unfold VE.kv
    rw [hk, hv]
theorem Vac.more {n : Int} {seen : List Nat} {L L' : List VE} {b : Nat} (h : Vac n seen L L') : (∀ x ∈ L, x.born ≠ b) → Vac n (seen ++ [b]) L L' := by
  induction h with
  | nil => exact fun _ => .nil
  | keep h1 _ ih => exact fun hb => .keep (by simp [h1, hb _ (List.mem_cons_self ..)]) (ih fun x hx => hb x (List.mem_cons_of_mem _ hx))
  | drop h1 h2 _ ih => exact fun hb => .drop (List.mem_append_left _ h1) h2 (ih fun x hx => hb x (List.mem_cons_of_mem _ hx))
  | turn h1 h2 h3 h4 h5 _ ih => exact fun hb => .turn (List.mem_append_left _ h1) h2 h3 h4 h5 (ih fun x hx => hb x (List.mem_cons_of_mem _ hx))
/-- One entry that was left is done. -/
theorem Vac.step {n : Int} {seen : List Nat} {L L' : List VE} {e : VE} {B R : List VE} (h : Vac n seen L L') (hR : ∀ l, Vac n (seen ++ [e.born]) l B → Vac n (seen ++ [e.born]) (e :: l) R) (hs : e.born ∉ seen) :
    ∀ {A : List VE}, L' = A ++ e :: B → (L.map VE.born).Nodup → Vac n (seen ++ [e.born]) L (A ++ R) := by
  induction h with
  | nil => intro A hA _; cases A <;> cases hA
  | keep h1 h2 ih =>
    intro A hA hn
    rw [List.map_cons, List.nodup_cons] at hn
    cases A with
    | nil =>
      injection hA with e1 e2
      subst e1 e2
      exact hR _ (h2.more fun x hx he => hn.1 (List.mem_map.2 ⟨x, hx, he⟩))
    | cons a A =>
      injection hA with e1 e2
      subst e1
      refine .keep ?_ (ih e2 hn.2)
      simp only [List.mem_append, List.mem_singleton, not_or]
      refine ⟨h1, fun he => hn.1 ?_⟩
      rw [he]
      exact h2.borns.subset (List.mem_map.2 ⟨e, by rw [e2]; simp, rfl⟩)
  | drop h1 h2 _ ih =>
    intro A hA hn
    rw [List.map_cons, List.nodup_cons] at hn
    exact .drop (List.mem_append_left _ h1) h2 (ih hA hn.2)
  | turn h1 h2 h3 h4 h5 _ ih =>
    intro A hA hn
    rw [List.map_cons, List.nodup_cons] at hn
    cases A with
    | nil =>
      injection hA with e1 e2
      subst e1
      exact absurd (h3 ▸ h1) hs
    | cons a A =>
      injection hA with e1 e2
      subst e1
      exact .turn (List.mem_append_left _ h1) h2 h3 h4 h5 (ih e2 hn.2)
end Go.Proofs.YtagcmjmcjpjihaaGreatDoor
namespace Go.Proofs.YtagcmjmcjpjihaaGreatDoor
open Go.RowKit
end Go.Proofs.YtagcmjmcjpjihaaGreatDoor
