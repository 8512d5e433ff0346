/- Texts Ver7, St1, St2, Elder of this claim, laid together. -/
import Derived.Test.YtagcmjmcjpjihaaGreatDoorGTopCountProof33
import Derived.Test.YtagcmjmcjpjihaaGreatDoorGTopCountProof27
import Derived.Test.YtagcmjmcjpjihaaGreatDoorGTopCountProof24
import Derived.Test.YtagcmjmcjpjihaaGreatDoorGTopCountProof28
import Derived.Test.YtagcmjmcjpjihaaGreatDoorGTopCountProof29
import Derived.Shelf.SlSortCmp.NoneTotal
import Derived.Test.YtagcmjmcjpjihaaGreatDoorGTopCountProof21
set_option linter.unusedVariables false
set_option linter.unusedSimpArgs false
namespace Go.Proofs.YtagcmjmcjpjihaaGreatDoor
open Go.RowKit Go.Sort
instance : Inhabited Rw := ⟨⟨⟨#[]⟩, ⟨#[]⟩⟩⟩
def rwCmp (x y : Rw) : Int := cmpZ x.key y.key
theorem rw_lt (x y : Rw) : ltOf rwCmp x y = slt x.key y.key := by unfold ltOf rwCmp; exact cmpZ_lt _ _
theorem rw_swo : SWO (ltOf rwCmp) where
  irrefl x := by rw [rw_lt]; exact slt_irrefl _
  trans x y z h1 h2 := by rw [rw_lt] at *; exact slt_trans h1 h2
  ntrans x y z h1 h2 := by rw [rw_lt] at *; exact not_slt_trans h1 h2
theorem perm_list {α : Type} [Inhabited α] {d d' : Array α} (h : PermIn 0 d.size d d') : d'.toList.Perm d.toList := by
  obtain ⟨h1, _, h3⟩ := h
  rw [Array.extract_size] at h3
  rw [← h1, Array.extract_size] at h3
  exact h3
theorem sorted_list {α : Type} [Inhabited α] {lt : α → α → Bool} {d : Array α} (h : SortedIn lt 0 d.size d) : d.toList.Pairwise fun a b => lt b a = false := by
  rw [List.pairwise_iff_getElem]
  intro i j hi hj hij
  have h1 := h i j (Nat.zero_le _) hij (by simpa using hj)
  rw [getElem!_pos d j (by simpa using hj), getElem!_pos d i (by simpa using hi)] at h1
  simpa using h1
theorem Tryz.infoRw : (Tryz.prog.info? 177).map (fun i => (i.zero, i.size, i.bytes)) = some (some (.agg #[.string ⟨#[]⟩, .string ⟨#[]⟩]), 2, 32) := by kernel_rfl
theorem flat_snoc (O : List Rw) (k v : ByteArray) : (O ++ [(⟨k, v⟩ : Rw)]).flatMap rwC = O.flatMap rwC ++ [.string k, .string v] := by rw [List.flatMap_append]; rfl
end Go.Proofs.YtagcmjmcjpjihaaGreatDoor
namespace Go.Proofs.YtagcmjmcjpjihaaGreatDoor
open Go.RowKit
/-- An entry of the store's map. -/
structure SE where
  key : ByteArray
  val : ByteArray
  born : Nat
def SE.en (e : SE) : En := ⟨e.key, .string e.val, e.born⟩
def SE.rw (e : SE) : Rw := ⟨e.key, e.val⟩
/-- A map's entries hold rows. -/
structure SesOk (L : List SE) (clock : Nat) (R : List Rw) : Prop where
  perm : (L.map SE.rw).Perm R
  ups : RUps R
  borns : (L.map SE.born).Nodup
  lt : ∀ x ∈ L, x.born < clock
def StM (b : Nat) (R : List Rw) : Rs := .ex fun x : Nat × List SE => .many [MapR b (x.2.map SE.en) x.1, .pure (SesOk x.2 x.1 R)]
theorem SesOk.keys {L : List SE} {clock : Nat} {R : List Rw} (h : SesOk L clock R) : (L.map SE.key).Nodup := by
  have h1 := (h.perm.map Rw.key).nodup_iff.2 h.ups.keys
  rw [List.map_map] at h1
  exact h1
theorem SesOk.len {L : List SE} {clock : Nat} {R : List Rw} (h : SesOk L clock R) : L.length = R.length := by
  have := h.perm.length_eq
  rw [List.length_map] at this
  exact this
theorem SesOk.old {L : List SE} {clock : Nat} {R : List Rw} (h : SesOk L clock R) : ∀ x ∈ L.map SE.en, x.born < clock := fun x hx => by
  obtain ⟨e, he, rfl⟩ := List.mem_map.1 hx
  exact h.lt e he
theorem SesOk.born {L : List SE} {clock : Nat} {R : List Rw} (h : SesOk L clock R) : ((L.map SE.en).map En.born).Nodup := by rw [List.map_map]; exact h.borns
theorem SesOk.none : SesOk [] 0 [] := ⟨.refl _, .nil, .nil, fun _ h => (List.not_mem_nil h).elim⟩
theorem RUps.nodup {R : List Rw} (h : RUps R) : R.Nodup := List.Pairwise.imp (fun {a b} h e => slt_ne h (congrArg Rw.key e)) h
/-- Two lists of rows, keys apart, the same rows in them. -/
theorem rows_perm {A R : List Rw} (hA : (A.map Rw.key).Nodup) (hR : RUps R) (h : ∀ r, r ∈ A ↔ r ∈ R) : A.Perm R := by
  have hn : A.Nodup := List.Pairwise.imp (fun {a b} h e => h (congrArg Rw.key e)) (List.pairwise_map.1 hA)
  exact (List.perm_ext_iff_of_nodup hn hR.nodup).2 h
def delS (k : ByteArray) : List SE → List SE
  | [] => []
  | x :: l => if x.key = k then l else x :: delS k l
theorem delE_S (k : ByteArray) : ∀ L : List SE, delE k (L.map SE.en) = (delS k L).map SE.en
  | [] => rfl
  | x :: l => by
    rw [List.map_cons, delE, delS]
    by_cases h : x.key = k
    · rw [if_pos (show (SE.en x).key = k from h), if_pos h]
    · rw [if_neg (show ¬ (SE.en x).key = k from h), if_neg h, List.map_cons, delE_S k l]
theorem delS_sub (k : ByteArray) : ∀ L : List SE, (delS k L).Sublist L
  | [] => .slnil
  | x :: l => by
    rw [delS]
    split
    · exact .cons _ (.refl _)
    · exact .cons_cons _ (delS_sub k l)
theorem mem_delS {k : ByteArray} {x : SE} : ∀ {L : List SE}, (L.map SE.key).Nodup → (x ∈ delS k L ↔ x ∈ L ∧ x.key ≠ k)
  | [], _ => by simp [delS]
  | y :: l, hn => by
    rw [List.map_cons, List.nodup_cons] at hn
    rw [delS]
    by_cases h : y.key = k
    · rw [if_pos h, List.mem_cons]
      constructor
      · intro hx
        exact ⟨.inr hx, fun e => hn.1 (List.mem_map.2 ⟨x, hx, by rw [e, h]⟩)⟩
      · rintro ⟨rfl | hx, h2⟩
        · exact absurd h h2
        · exact hx
    · rw [if_neg h, List.mem_cons, List.mem_cons, mem_delS hn.2]
      constructor
      · rintro (rfl | ⟨h1, h2⟩)
        · exact ⟨.inl rfl, h⟩
        · exact ⟨.inr h1, h2⟩
      · rintro ⟨rfl | h1, h2⟩
        · exact .inl rfl
        · exact .inr ⟨h1, h2⟩
def setS (k v : ByteArray) : List SE → List SE
  | [] => []
  | x :: l => if x.key = k then ⟨k, v, x.born⟩ :: l else x :: setS k v l
theorem setE_S (k v : ByteArray) : ∀ L : List SE, setE k (.string v) (L.map SE.en) = (setS k v L).map SE.en
  | [] => rfl
  | x :: l => by
    rw [List.map_cons, setE, setS]
    by_cases h : x.key = k
    · rw [if_pos (show (SE.en x).key = k from h), if_pos h]; rfl
    · rw [if_neg (show ¬ (SE.en x).key = k from h), if_neg h, List.map_cons, setE_S k v l]
theorem setS_keys (k v : ByteArray) : ∀ L : List SE, (setS k v L).map SE.key = L.map SE.key
  | [] => rfl
  | x :: l => by
    rw [setS]
    by_cases h : x.key = k
    · rw [if_pos h, List.map_cons, List.map_cons, h]
    · rw [if_neg h, List.map_cons, List.map_cons, setS_keys k v l]
theorem setS_borns (k v : ByteArray) : ∀ L : List SE, (setS k v L).map SE.born = L.map SE.born
  | [] => rfl
  | x :: l => by
    rw [setS]
    by_cases h : x.key = k
    · rw [if_pos h, List.map_cons, List.map_cons]
    · rw [if_neg h, List.map_cons, List.map_cons, setS_borns k v l]
theorem mem_setS {k v : ByteArray} {r : Rw} : ∀ {L : List SE}, (L.map SE.key).Nodup → (∃ x ∈ L, x.key = k) → (r ∈ (setS k v L).map SE.rw ↔ (r ∈ L.map SE.rw ∧ r.key ≠ k) ∨ r = ⟨k, v⟩)
  | [], _, h => by obtain ⟨x, hx, _⟩ := h; cases hx
  | y :: l, hn, hx => by
    rw [List.map_cons, List.nodup_cons] at hn
    rw [setS]
    by_cases h : y.key = k
    · rw [if_pos h, List.map_cons, List.map_cons, List.mem_cons, List.mem_cons]
      have hk : ∀ r ∈ l.map SE.rw, r.key ≠ k := fun r hr e => by
        obtain ⟨x, hx, rfl⟩ := List.mem_map.1 hr
        exact hn.1 (List.mem_map.2 ⟨x, hx, by rw [h]; exact e⟩)
      constructor
      · rintro (rfl | h1)
        · exact .inr rfl
        · exact .inl ⟨.inr h1, hk r h1⟩
      · rintro (⟨rfl | h1, h2⟩ | rfl)
        · exact absurd h h2
        · exact .inr h1
        · exact .inl rfl
    · rw [if_neg h, List.map_cons, List.map_cons, List.mem_cons, List.mem_cons, mem_setS hn.2 (by
        obtain ⟨x, hx, e⟩ := hx
        rcases List.mem_cons.1 hx with rfl | hx
        · exact absurd e h
        · exact ⟨x, hx, e⟩)]
      constructor
      · rintro (rfl | ⟨h1, h2⟩ | h1)
        · exact .inl ⟨.inl rfl, h⟩
        · exact .inl ⟨.inr h1, h2⟩
        · exact .inr h1
      · rintro (⟨rfl | h1, h2⟩ | h1)
        · exact .inl rfl
        · exact .inr (.inl ⟨h1, h2⟩)
        · exact .inr (.inr h1)
theorem getE_S (k : ByteArray) : ∀ L : List SE, (getE k (L.map SE.en) = none ∧ ∀ x ∈ L, x.key ≠ k) ∨ ((getE k (L.map SE.en)).isSome = true ∧ ∃ x ∈ L, x.key = k)
  | [] => .inl ⟨rfl, fun _ h => (List.not_mem_nil h).elim⟩
  | x :: l => by
    unfold getE
    rw [List.map_cons, lookE]
    by_cases h : x.key = k
    · rw [if_pos (show (SE.en x).key = k from h)]
      exact .inr ⟨rfl, x, List.mem_cons_self .., h⟩
    · rw [if_neg (show ¬ (SE.en x).key = k from h)]
      rcases getE_S k l with ⟨h1, h2⟩ | ⟨h1, y, hy, h2⟩
      · left
        unfold getE at h1
        refine ⟨by cases hl : lookE k (l.map SE.en) with | none => rfl | some p => (rw [hl] at h1; cases h1), fun y hy => ?_⟩
        rcases List.mem_cons.1 hy with rfl | hy
        · exact h
        · exact h2 y hy
      · right
        unfold getE at h1
        refine ⟨by cases hl : lookE k (l.map SE.en) with | none => (rw [hl] at h1; cases h1) | some p => rfl, y, List.mem_cons_of_mem _ hy, h2⟩
theorem SesOk.del {L : List SE} {clock : Nat} {R : List Rw} (h : SesOk L clock R) (k v : ByteArray) : SesOk (delS k L) clock (appR R ⟨k, v, true⟩) := by
  have hs := delS_sub k L
  have hu : RUps (appR R ⟨k, v, true⟩) := appF_ups h.ups
  refine ⟨rows_perm ?_ hu fun r => ?_, hu, h.borns.sublist (hs.map _), fun x hx => h.lt x (hs.subset hx)⟩
  · rw [List.map_map]
    exact h.keys.sublist (hs.map _)
  · unfold appR
    rw [mem_appF, ← h.perm.mem_iff]
    constructor
    · intro hr
      obtain ⟨x, hx, rfl⟩ := List.mem_map.1 hr
      obtain ⟨h1, h2⟩ := (mem_delS h.keys).1 hx
      exact .inl ⟨List.mem_map.2 ⟨x, h1, rfl⟩, h2⟩
    · rintro (⟨h1, h2⟩ | ⟨h1, _⟩)
      · obtain ⟨x, hx, rfl⟩ := List.mem_map.1 h1
        exact List.mem_map.2 ⟨x, (mem_delS h.keys).2 ⟨hx, h2⟩, rfl⟩
      · cases h1
theorem SesOk.set {L : List SE} {clock : Nat} {R : List Rw} (h : SesOk L clock R) {k : ByteArray} (v : ByteArray) (hk : ∃ x ∈ L, x.key = k) : SesOk (setS k v L) clock (appR R ⟨k, v, false⟩) := by
  have hu : RUps (appR R ⟨k, v, false⟩) := appF_ups h.ups
  have hb := setS_borns k v L
  refine ⟨rows_perm ?_ hu fun r => ?_, hu, by rw [hb]; exact h.borns, fun x hx => ?_⟩
  · rw [List.map_map]
    show ((setS k v L).map SE.key).Nodup
    rw [setS_keys]; exact h.keys
  · unfold appR
    rw [mem_appF, ← h.perm.mem_iff, mem_setS h.keys hk]
    simp
  · have h1 : x.born ∈ (setS k v L).map SE.born := List.mem_map.2 ⟨x, hx, rfl⟩
    rw [hb] at h1
    obtain ⟨y, hy, e⟩ := List.mem_map.1 h1
    rw [← e]; exact h.lt y hy
theorem SesOk.add {L : List SE} {clock : Nat} {R : List Rw} (h : SesOk L clock R) {k : ByteArray} (v : ByteArray) (hk : ∀ x ∈ L, x.key ≠ k) : SesOk (L ++ [⟨k, v, clock⟩]) (clock + 1) (appR R ⟨k, v, false⟩) := by
  have hu : RUps (appR R ⟨k, v, false⟩) := appF_ups h.ups
  refine ⟨rows_perm ?_ hu fun r => ?_, hu, ?_, fun x hx => ?_⟩
  · rw [List.map_map, List.map_append, List.nodup_append]
    refine ⟨h.keys, by simp, fun a ha b hb he => ?_⟩
    obtain ⟨x, hx, rfl⟩ := List.mem_map.1 ha
    simp at hb
    exact hk x hx (he.trans hb)
  · unfold appR
    rw [mem_appF, ← h.perm.mem_iff, List.map_append, List.mem_append]
    have hn : ∀ r ∈ L.map SE.rw, r.key ≠ k := fun r hr => by
      obtain ⟨x, hx, rfl⟩ := List.mem_map.1 hr
      exact hk x hx
    constructor
    · rintro (h1 | h1)
      · exact .inl ⟨h1, hn r h1⟩
      · exact .inr ⟨rfl, by simpa [SE.rw] using h1⟩
    · rintro (⟨h1, _⟩ | ⟨_, rfl⟩)
      · exact .inl h1
      · exact .inr (by simp [SE.rw])
  · rw [List.map_append, List.nodup_append]
    refine ⟨h.borns, by simp, fun a ha b hb he => ?_⟩
    obtain ⟨x, hx, rfl⟩ := List.mem_map.1 ha
    simp at hb
    have := h.lt x hx
    omega
  · rcases List.mem_append.1 hx with hx | hx
    · have := h.lt x hx; omega
    · simp at hx; rw [hx]; simp
/-! A map is walked through. -/
def leftE (seen : List Nat) : List SE → Nat
  | [] => 0
  | x :: l => (if x.born ∈ seen then 0 else 1) + leftE seen l
theorem leftE_le {seen : List Nat} {b : Nat} : ∀ L : List SE, leftE (seen ++ [b]) L ≤ leftE seen L
  | [] => Nat.le_refl _
  | x :: l => by
    have := leftE_le (seen := seen) (b := b) l
    unfold leftE
    by_cases h : x.born ∈ seen
    · rw [if_pos h, if_pos (List.mem_append_left _ h)]; omega
    · rw [if_neg h]; split <;> omega
theorem leftE_lt {seen : List Nat} {e : SE} : ∀ {L : List SE}, e ∈ L → e.born ∉ seen → leftE (seen ++ [e.born]) L < leftE seen L
  | x :: l, hm, hs => by
    unfold leftE
    rcases List.mem_cons.1 hm with rfl | hm
    · have := leftE_le (seen := seen) (b := e.born) l
      rw [if_neg hs, if_pos (List.mem_append_right _ (List.mem_singleton_self _))]; omega
    · have := leftE_lt hm hs
      by_cases h : x.born ∈ seen
      · rw [if_pos h, if_pos (List.mem_append_left _ h)]; omega
      · rw [if_neg h]; split <;> omega
/-- What was seen of it. -/
def seenS (seen : List Nat) (L : List SE) : List Rw := (L.filter fun x => decide (x.born ∈ seen)).map SE.rw
theorem seenS_nil (L : List SE) : seenS [] L = [] := by
  unfold seenS
  rw [List.filter_eq_nil_iff.2 fun x _ => by simp]
  rfl
theorem seenS_all {seen : List Nat} {L : List SE} (h : ∀ e ∈ L, e.born ∈ seen) : seenS seen L = L.map SE.rw := by
  unfold seenS
  rw [List.filter_eq_self.2 fun x hx => by simpa using h x hx]
theorem seenS_out {seen : List Nat} {b : Nat} : ∀ {L : List SE}, (∀ x ∈ L, x.born ≠ b) → L.filter (fun x => decide (x.born ∈ seen ++ [b])) = L.filter fun x => decide (x.born ∈ seen)
  | [], _ => rfl
  | x :: l, h => by
    have h1 := h x (List.mem_cons_self ..)
    rw [List.filter_cons, List.filter_cons, seenS_out fun y hy => h y (List.mem_cons_of_mem _ hy)]
    simp [h1]
theorem seenS_step {seen : List Nat} {e : SE} : ∀ {L : List SE}, (L.map SE.born).Nodup → e ∈ L → e.born ∉ seen → (L.filter fun x => decide (x.born ∈ seen ++ [e.born])).Perm (e :: L.filter fun x => decide (x.born ∈ seen))
  | x :: l, hn, hm, h => by
    rw [List.map_cons, List.nodup_cons] at hn
    rcases List.mem_cons.1 hm with rfl | hm
    · rw [List.filter_cons, if_pos (by simp), seenS_out (fun y hy he => hn.1 (List.mem_map.2 ⟨y, hy, he⟩)), List.filter_cons, if_neg (by simpa using h)]
    · have hne : x.born ≠ e.born := fun he => hn.1 (List.mem_map.2 ⟨e, hm, he.symm⟩)
      have ih := seenS_step hn.2 hm h
      rw [List.filter_cons, List.filter_cons]
      by_cases hx : x.born ∈ seen
      · rw [if_pos (by simp [hx]), if_pos (by simpa using hx)]
        exact (ih.cons x).trans (.swap ..)
      · rw [if_neg (by simp [hx, hne]), if_neg (by simpa using hx)]
        exact ih
theorem seenS_more {seen : List Nat} {e : SE} {L : List SE} {O : List Rw} (hn : (L.map SE.born).Nodup) (he : e ∈ L) (hs : e.born ∉ seen) (hp : O.Perm (seenS seen L)) : (O ++ [(⟨e.key, e.val⟩ : Rw)]).Perm (seenS (seen ++ [e.born]) L) := by
  have h1 : (seenS (seen ++ [e.born]) L).Perm (SE.rw e :: seenS seen L) := (seenS_step hn he hs).map SE.rw
  refine List.Perm.trans ?_ h1.symm
  exact List.perm_append_comm.trans (hp.cons _)
theorem seenS_sub (seen : List Nat) (L : List SE) : (seenS seen L).Sublist (L.map SE.rw) := (List.filter_sublist).map _
/-- Rows that lie in any order, sorted. -/
theorem sorted_is {O' R : List Rw} (hR : RUps R) (hp : O'.Perm R) (hs : O'.Pairwise fun x y => slt y.key x.key = false) : O' = R := by
  have hk : (O'.map Rw.key).Nodup := (hp.map Rw.key).nodup_iff.2 hR.keys
  have hu : RUps O' := by
    have h1 : O'.Pairwise fun x y => x.key ≠ y.key := List.pairwise_map.1 hk
    exact List.Pairwise.imp (fun {a b} h => slt_of_not h.1 fun e => h.2 e.symm) (hs.and h1)
  exact RUps.ext hu hR fun r => hp.mem_iff
end Go.Proofs.YtagcmjmcjpjihaaGreatDoor
namespace Go.Proofs.YtagcmjmcjpjihaaGreatDoor
open Go.RowKit Go.Sort
/-- A map is copied: what was seen is there. -/
structure Cpy (seen : List Nat) (L L2 : List SE) (c2 : Nat) : Prop where
  perm : (L2.map SE.rw).Perm (seenS seen L)
  borns : (L2.map SE.born).Nodup
  lt : ∀ x ∈ L2, x.born < c2
theorem Cpy.none (L : List SE) : Cpy [] L [] 0 := ⟨by rw [seenS_nil]; exact .refl _, .nil, fun _ h => (List.not_mem_nil h).elim⟩
theorem nodup_inj {α β : Type} {f : α → β} : ∀ {l : List α}, (l.map f).Nodup → ∀ {x y : α}, x ∈ l → y ∈ l → f x = f y → x = y
  | z :: l, h, x, y, hx, hy, he => by
    rw [List.map_cons, List.nodup_cons] at h
    rcases List.mem_cons.1 hx with rfl | hx' <;> rcases List.mem_cons.1 hy with rfl | hy'
    · rfl
    · exact absurd (List.mem_map.2 ⟨y, hy', he.symm⟩) h.1
    · exact absurd (List.mem_map.2 ⟨x, hx', he⟩) h.1
    · exact nodup_inj h.2 hx' hy' he
theorem Cpy.step {seen : List Nat} {L L2 : List SE} {clock c2 : Nat} {R : List Rw} (h : Cpy seen L L2 c2) (hL : SesOk L clock R) {e : SE} (he : e ∈ L) (hs : e.born ∉ seen) :
    (∀ x ∈ L2, x.key ≠ e.key) ∧ Cpy (seen ++ [e.born]) L (L2 ++ [⟨e.key, e.val, c2⟩]) (c2 + 1) := by
  have hk : ∀ x ∈ L2, x.key ≠ e.key := fun x hx hxe => by
    have h1 : SE.rw x ∈ seenS seen L := h.perm.mem_iff.1 (List.mem_map.2 ⟨x, hx, rfl⟩)
    obtain ⟨y, hy, hy2⟩ := List.mem_map.1 h1
    obtain ⟨hy3, hy4⟩ := List.mem_filter.1 hy
    have h2 : y.key = e.key := by rw [← hxe]; exact congrArg Rw.key hy2
    rw [nodup_inj hL.keys hy3 he h2] at hy4
    exact hs (by simpa using hy4)
  refine ⟨hk, ?_, ?_, fun x hx => ?_⟩
  · rw [List.map_append]
    exact seenS_more hL.borns he hs h.perm
  · rw [List.map_append, List.nodup_append]
    refine ⟨h.borns, by simp, fun a ha b hb he => ?_⟩
    obtain ⟨x, hx, rfl⟩ := List.mem_map.1 ha
    simp at hb
    have := h.lt x hx
    omega
  · rcases List.mem_append.1 hx with hx | hx
    · have := h.lt x hx; omega
    · simp at hx; rw [hx]; simp
theorem Cpy.all {seen : List Nat} {L L2 : List SE} {clock c2 : Nat} {R : List Rw} (h : Cpy seen L L2 c2) (hL : SesOk L clock R) (hs : ∀ e ∈ L, e.born ∈ seen) : SesOk L2 c2 R := by
  have h1 := h.perm
  rw [seenS_all hs] at h1
  exact ⟨h1.trans hL.perm, hL.ups, h.borns, h.lt⟩
set_option maxHeartbeats 4000000 in
set_option maxRecDepth 100000 in
theorem sapply_does (b : Nat) (R : List Rw) (a : Option Addr) (n cap : Nat) (C : List Ch) (hn : C.length = n) (hn2 : n ≤ 100000) :
    Does Tryz.prog 150 #[.map (some b), .slice a n cap] [StM b R, (.imm fun w => ValsAt w a (chs C))] (fun b' : Nat => (.map (some b'), [StM b R, StM b' (C.foldl appR R), (.imm fun w => ValsAt w a (chs C))])) := by
  intro S W w L0 hO; simp only [CA] at hO
  obtain ⟨⟨clock, L⟩, hO⟩ := hO.ofEx; replace hO := hO.unpack; dsimp only at hO; simp only [CA] at hO; (replace hf := fa_ hO)
  have hok := hO.factOf (r := .pure (SesOk L clock R)) pk_
  have hold := hok.old
  have hborn := hok.born
  go_enter Tryz.func150, Tryz.ntmps150
  go_wp2_with (first | ((with_reducible show wpList _ _ _ (Oper.mk _ (.makeMap _ _) _ _ _ _ :: _) _ _); (refine wpList_newE hO rfl rfl ?_; clear hO; intro b9 w9 hO; (replace hf := fa_ hO))) | (at_range; (refine wpList_rangeE (b := b) hO pk_ rfl _ rfl Tryz.underlying229 rfl ?_; clear hO; intro r9 w9 hO; (replace hf := fa_ hO))) | (refine sq_ ?_; clear hO; (try clear hf); intro w9 hO hf))
  simp [go_sem]
  have hO9 := hO
  clear hO hf
  go_loopw [] (fun wr => ∃ (seen : List Nat) (c2 : Nat) (L2 : List SE), Hid (Cpy seen L L2 c2) ∧ Own S W wr ([ItR r9 b clock seen clock, MapR b (L.map SE.en) clock, MapR b9 (L2.map SE.en) c2, (.imm fun w => ValsAt w a (chs C))] ++ L0)) (fun wr => leftE (seenOf r9 wr) L)
  case atStart => exact ⟨[], 0, [], Lib.hid (Cpy.none L), by (try simp only [CA]); rw [List.map_nil]; exact hO9.cut sb_⟩
  case round =>
    clear hO9
    obtain ⟨seen, c2, L2, HC, hO⟩ := hrel
    rename World => w1
    simp only [List.cons_append, List.nil_append] at hO
    have hseen := seenOf_at hO (.here _ _)
    rw [hseen]
    (replace hf := fa_ hO)
    by_cases hall : ∀ x ∈ L.map SE.en, x.born ∈ seen
    · have HS := Lib.hid (HC.out.all hok fun e he => hall _ (List.mem_map.2 ⟨e, he, rfl⟩))
      go_wp2_with (first | (at_next; (refine wpList_nextE (b := b) hO pk_ pk_ rfl _ rfl rfl hold (Nat.le_refl _) (fun _ => ?_) (fun x8 _ hx8 hn8 _ => absurd (hall x8 hx8) hn8))) | (refine sq_ ?_; clear hO; (try clear hf); intro w9 hO hf))
      have hO9 := hO.cut (l' := [MapR b (L.map SE.en) clock, MapR b9 (L2.map SE.en) c2, (.imm fun w => ValsAt w a (chs C))] ++ L0) (by (try simp only [CA]); exact sb_)
      clear hO hf
      go_loopw [23] (fun v wr => ∃ (i c3 : Nat) (L3 : List SE), v = .int .i64 i ∧ i ≤ n ∧ Hid (SesOk L3 c3 ((C.take i).foldl appR R)) ∧ Own S W wr ([MapR b (L.map SE.en) clock, MapR b9 (L3.map SE.en) c3, (.imm fun w => ValsAt w a (chs C))] ++ L0)) (fun v _ => n - (intOf v).toNat)
      case atStart => exact ⟨0, c2, L2, rfl, by omega, HS, hO9⟩
      case round =>
        clear hO9
        obtain ⟨i, c3, L3, rfl, hi, HL, hO⟩ := hrel
        rename World => w2
        simp only [List.cons_append, List.nil_append] at hO
        (replace hf := fa_ hO)
        by_cases hlt : i < n
        · have hi2 : i < C.length := by omega
          obtain ⟨b1, off, rfl⟩ := ChAt.some (a := a) (Own.immOf (φ := fun w => ValsAt w a (chs C)) hO pk_) (by omega)
          have HT := Lib.hid (show (C.take (i + 1)).foldl appR R = appR ((C.take i).foldl appR R) C[i] by rw [List.take_add_one, List.getElem?_eq_getElem hi2, List.foldl_append]; rfl)
          have hcy := fun w h => ChAt.at (w := w) (l := C) (b := b1) (off := off) h hi2
          obtain ⟨c0, c1, c2'⟩ := hcy _ (Own.immOf (φ := fun w => ValsAt w (some ⟨b1, off, none⟩) (chs C)) hO pk_)
          generalize C[i] = c at *
          obtain ⟨k, v, g⟩ := c
          dsimp only at *
          cases g with
          | true =>
            go_wp2_with (first | ((with_reducible show wpList _ _ _ (Oper.mk _ (.call { callee := .builtin .delete, args := _, argTypes := _ }) _ _ _ _ :: _) _ _); (refine wpList_delE (b := b9) hO pk_ rfl _ _ rfl Tryz.underlying229 Tryz.underlying9 rfl rfl ?_; clear hO; intro w9 hO; (replace hf := fa_ hO))) | (refine sq_ ?_; clear hO; (try clear hf); intro w9 hO hf))
            refine ⟨⟨i + 1, c3, delS k L3, by go_num, by omega, Lib.hid (by rw [HT.out]; exact HL.out.del k v), ?_⟩, by simp [intOf]; omega⟩
            rw [← delE_S]
            (try simp only [CA])
            exact hO.cut sb_
          | false =>
            rcases getE_S k L3 with ⟨h1, h2⟩ | ⟨h1, h2⟩
            · have HN := Lib.hid h2
              clear h2
              go_wp2_with (first | (with_reducible show wpList _ _ _ (Oper.mk _ (.mapUpdate _ _ _ _) _ _ _ _ :: _) _ _; (refine wpList_addE (b := b9) hO pk_ rfl _ _ _ rfl Tryz.underlying229 Tryz.underlying9 rfl rfl (.string v) rfl h1 ?_; clear hO; intro w9 hO; (replace hf := fa_ hO))) | (refine sq_ ?_; clear hO; (try clear hf); intro w9 hO hf))
              refine ⟨⟨i + 1, c3 + 1, L3 ++ [⟨k, v, c3⟩], by go_num, by omega, Lib.hid (by rw [HT.out]; exact HL.out.add v HN.out), ?_⟩, by simp [intOf]; omega⟩
              rw [show (L3 ++ [(⟨k, v, c3⟩ : SE)]).map SE.en = L3.map SE.en ++ [⟨k, .string v, c3⟩] from by rw [List.map_append]; rfl]
              (try simp only [CA])
              exact hO.cut sb_
            · have HN := Lib.hid h2
              clear h2
              go_wp2_with (first | (with_reducible show wpList _ _ _ (Oper.mk _ (.mapUpdate _ _ _ _) _ _ _ _ :: _) _ _; (refine wpList_setE (b := b9) hO pk_ rfl _ _ _ rfl Tryz.underlying229 Tryz.underlying9 rfl rfl (.string v) rfl h1 ?_; clear hO; intro w9 hO; (replace hf := fa_ hO))) | (refine sq_ ?_; clear hO; (try clear hf); intro w9 hO hf))
              refine ⟨⟨i + 1, c3, setS k v L3, by go_num, by omega, Lib.hid (by rw [HT.out]; exact HL.out.set v HN.out), ?_⟩, by simp [intOf]; omega⟩
              rw [← setE_S]
              (try simp only [CA])
              exact hO.cut sb_
        · have HZ := HL.out
          rw [List.take_of_length_le (by omega)] at HZ
          have HZ := Lib.hid HZ
          go_wp2_with (first | (refine sq_ ?_; clear hO; (try clear hf); intro w9 hO hf))
          have hO := (hO.toPure (p := SesOk L clock R) hok).toPure (p := SesOk L3 c3 (C.foldl appR R)) HZ.out
          have h8 : Own S W w2 (StM b9 (C.foldl appR R) :: MapR b (L.map SE.en) clock :: .pure (SesOk L clock R) :: (.imm fun w => ValsAt w a (chs C)) :: L0) := Own.toEx (c3, L3) (Own.pack (by dsimp only; (try simp only [CA]); exact hO.cut sb_))
          go_ret
          refine ⟨b9, rfl, ?_⟩
          (try simp only [CA])
          refine Own.toEx (clock, L) (Own.pack ?_)
          dsimp only
          (try simp only [CA])
          exact h8.cut sb_
    · obtain ⟨HC2, HC3⟩ : (∀ e ∈ L, e.born ∉ seen → getE e.key (L2.map SE.en) = none) ∧ Hid (∀ e ∈ L, e.born ∉ seen → Cpy (seen ++ [e.born]) L (L2 ++ [⟨e.key, e.val, c2⟩]) (c2 + 1)) := ⟨fun e he hs => getE_none fun x hx => by
          obtain ⟨y, hy, rfl⟩ := List.mem_map.1 hx
          exact (HC.out.step hok he hs).1 y hy, Lib.hid fun e he hs => (HC.out.step hok he hs).2⟩
      go_wp2_with (first | (at_next; (refine wpList_nextE (b := b) hO pk_ pk_ rfl _ rfl rfl hold (Nat.le_refl _) (fun h8 => absurd h8 hall) ?_; clear hO; intro x9 w9 hx9 hn9 hO; obtain ⟨e9, he9, rfl⟩ := List.mem_map.1 hx9; clear hx9; (replace hf := fa_ hO))) | (with_reducible show wpList _ _ _ (Oper.mk _ (.entry _) _ _ _ _ :: _) _ _; (refine wpList_entryE (b := b) (x := SE.en e9) hO pk_ pk_ rfl _ rfl rfl (List.mem_map.2 ⟨e9, he9, rfl⟩) hborn ?_; dsimp only [SE.en])) | (with_reducible show wpList _ _ _ (Oper.mk _ (.mapUpdate _ _ _ _) _ _ _ _ :: _) _ _; (refine wpList_addE (b := b9) hO pk_ rfl _ _ _ rfl Tryz.underlying229 Tryz.underlying9 rfl rfl (.string e9.val) rfl (HC2 e9 he9 (by simpa [SE.en] using hn9)) ?_; clear hO; intro w9 hO; (replace hf := fa_ hO))) | (refine sq_ ?_; clear hO; (try clear hf); intro w9 hO hf))
      have e3 := seenOf_at hO pk_
      rw [e3]
      refine And.intro ?_ (leftE_lt he9 hn9)
      (repeat apply Exists.intro)
      refine And.intro ?_ rfl
      refine ⟨seen ++ [(SE.en e9).born], c2 + 1, L2 ++ [(⟨e9.key, e9.val, c2⟩ : SE)], Lib.hid (HC3.out e9 he9 hn9), ?_⟩
      rw [show (L2 ++ [(⟨e9.key, e9.val, c2⟩ : SE)]).map SE.en = L2.map SE.en ++ [⟨e9.key, .string e9.val, c2⟩] from by rw [List.map_append]; rfl]
      (try simp only [CA])
      exact hO.cut sb_
set_option maxHeartbeats 1000000 in
set_option maxRecDepth 100000 in
theorem srowsCmp (x y : Rw) (W : World) : Calls Tryz.prog 164 #[.agg (rwC x).toArray, .agg (rwC y).toArray] W fun e w' => e = .returned (.int .i64 (rwCmp x y)) ∧ ∃ q os', w' = grow (W.drewN q) os' := by
  have hcon := fun W' => Tryz.strings_Compare x.key y.key W'
  change ∀ W', Calls Tryz.prog 165 _ _ _ at hcon
  have hc : Lib.compareBytes x.key.data.toList y.key.data.toList = rwCmp x y := rfl
  rw [hc] at hcon
  clear hc
  unfold rwC
  generalize rwCmp x y = r at hcon ⊢
  go_enter Tryz.func164, Tryz.ntmps164
  go_wp2_with (go_at_call 165; refine (hcon _).mono ?_; rintro e w' ⟨rfl, rfl⟩)
  go_ret
  exact ⟨rfl, 0, _, by rw [alloc_eq_grow, alloc_eq_grow, grow_grow]; rfl⟩
set_option maxHeartbeats 1000000 in
set_option maxRecDepth 100000 in
theorem sortStore_does (a : Option Addr) (n cap : Nat) (l : List Rw) (hl : l.length = n) (hn : n ≤ 1000000) :
    Does Tryz.prog 163 #[.slice a n cap, .func (.func 164) #[] #[]] [Row2 177 2 a n cap (l.flatMap rwC)]
      (fun l' : List Rw => (.tuple #[], [Row2 177 2 a n cap (l'.flatMap rwC), .pure (l'.Perm l ∧ l'.Pairwise fun x y => slt y.key x.key = false)])) := by
  intro S W w L0 hO
  simp only [List.cons_append, List.nil_append] at hO
  rcases Nat.eq_zero_or_pos n with h0 | h0
  · subst h0
    have hl0 := List.length_eq_zero_iff.1 hl
    subst hl0
    have hc := AnyF.slices_SortFunc_none Tryz.sortRow a cap (.func (.func 164) #[] #[]) w
    refine Calls.mono (show Calls Tryz.prog 163 _ _ _ from hc) ?_
    rintro e w' ⟨rfl, rfl⟩
    refine ⟨[], rfl, ?_⟩
    have h8 := hO.toPure (p := ([] : List Rw).Perm [] ∧ ([] : List Rw).Pairwise fun x y => slt y.key x.key = false) ⟨.refl _, .nil⟩
    dsimp only
    (try simp only [CA])
    exact h8.cut sb_
  · obtain ⟨g, rfl, hfz, hg⟩ := hO.rowAt (.here _ _) h0
    have hv : ValsAt w (some ⟨g, 0, none⟩) (l.toArray.toList.flatMap rwC) := by
      rw [List.toList_toArray]; exact hO.facts.1.1
    have hH := holdsK_vals (enc := rwC) (k := 2) (d := l.toArray) hv hfz (fun _ => rfl) (by omega)
    have eg : ∀ args w, (callFunc 164 args).run Tryz.prog w = .ok (.enter 164 args) w := enters_of Tryz.func164 (by kernel_rfl) rfl
    have hs : l.toArray.size = n := by simp [hl]
    have hcon := AnyQ.slices_SortFunc Tryz.sortRow 2 Tryz.isAgg177 Tryz.sizeOf177 rwC (fun _ => rfl) (fun x v hv => by simp [rwC] at hv; rcases hv with rfl | rfl <;> rfl) rwCmp rw_swo 164 #[] g 0 cap l.toArray w eg (fun _ _ _ _ x y => srowsCmp x y _) hH hg (by rw [hs]; omega)
    rw [hs] at hcon
    refine Calls.mono (show Calls Tryz.prog 163 _ _ _ from hcon) ?_
    rintro e w' ⟨rfl, d', m, os, hp, hso, rfl⟩
    rw [← hs] at hp hso
    have hp2 := perm_list hp
    have hd : d'.size = n := by have := hp2.length_eq; simp at this; omega
    have hso2 := sorted_list (lt := ltOf rwCmp) (d := d') (by rw [show d'.size = l.toArray.size from by omega]; exact hso)
    have h8 := hO.sorted (m := m) (os := os) (d' := d') (enc := rwC) (.here _ _) (fun _ => rfl) (by omega) hd
    have h9 := h8.toPure (p := d'.toList.Perm l ∧ d'.toList.Pairwise fun x y => slt y.key x.key = false) ⟨by simpa using hp2, hso2.imp fun {a b} h => by rw [rw_lt] at h; exact h⟩
    refine ⟨d'.toList, rfl, ?_⟩
    dsimp only
    (try simp only [CA])
    exact h9.cut sb_
/-- A store's own block: its disk, its head, its log, its map. -/
def stC (p e si sz fi q b : Nat) : List Value := [.pointer (some ⟨p, 0, none⟩), .int .i64 e, .int .i64 si, .int .i64 sz, .int .i64 fi, .pointer (some ⟨q, 0, none⟩), .map (some b)]
theorem seenS_len (seen : List Nat) (L : List SE) : (seenS seen L).length ≤ L.length := by
  have := (seenS_sub seen L).length_le
  rw [List.length_map] at this
  exact this
set_option maxHeartbeats 4000000 in
set_option maxRecDepth 100000 in
theorem srows_does (s b : Nat) (R : List Rw) (hR : R.length ≤ 1000) (d h0 h1 h2 h3 lg : Value) :
    Does Tryz.prog 83 #[.pointer (some ⟨s, 0, none⟩)] [Var s [d, h0, h1, h2, h3, lg, .map (some b)] 233, StM b R]
      (fun x : Option Addr × Nat => (.slice x.1 R.length x.2, [Var s [d, h0, h1, h2, h3, lg, .map (some b)] 233, StM b R, Row2 177 2 x.1 R.length x.2 (R.flatMap rwC)])) := by
  obtain ⟨iR, hiR, hzR, hsR, hbR⟩ := info_parts Tryz.infoRw
  intro S W w L0 hO; simp only [CA] at hO
  obtain ⟨⟨clock, L⟩, h8⟩ := (hO.pick (r := StM b R) pk_).ofEx
  replace hO := h8.unpack
  clear h8
  dsimp only at hO
  simp only [List.cons_append, List.nil_append] at hO
  have hok := hO.factOf (r := .pure (SesOk L clock R)) pk_
  have hold := hok.old
  have hborn := hok.born
  have hlen := hok.len
  (replace hf := fa_ hO)
  go_enter Tryz.func83, Tryz.ntmps83
  go_wp2_with (first | (at_range; (refine wpList_rangeE (b := b) hO pk_ rfl _ rfl Tryz.underlying229 rfl ?_; clear hO; intro r9 w9 hO; (replace hf := fa_ hO))) | (refine sq_ ?_; clear hO; (try clear hf); intro w9 hO hf))
  simp [go_sem]
  have hO9 := hO.nil 177 2
  clear hO hf
  go_loopw [3] (fun v wr => ∃ (seen : List Nat) (oa : Option Addr) (oc : Nat) (O : List Rw), v = .slice oa O.length oc ∧ Hid (O.Perm (seenS seen L)) ∧ Own S W wr ([ItR r9 b clock seen clock, Row2 177 2 oa O.length oc (O.flatMap rwC), Var s [d, h0, h1, h2, h3, lg, .map (some b)] 233, MapR b (L.map SE.en) clock] ++ L0)) (fun v wr => leftE (seenOf r9 wr) L)
  case atStart => exact ⟨[], none, 0, [], rfl, Lib.hid (show ([] : List Rw).Perm (seenS [] L) by rw [seenS_nil]), (by simp only [List.length_nil, List.flatMap_nil, List.cons_append, List.nil_append]; exact hO9.cut sb_)⟩
  case round =>
    clear hO9
    obtain ⟨seen, oa, oc, O, rfl, HP, hO⟩ := hrel
    rename World => w1
    simp only [List.cons_append, List.nil_append] at hO
    have hseen := seenOf_at hO (.here _ _)
    rw [hseen]
    (replace hf := fa_ hO)
    have hOn : O.length ≤ 1000000 := by have h := (show O.Perm (seenS seen L) from HP.out).length_eq; have h3 := seenS_len seen L; omega
    by_cases hall : ∀ x ∈ L.map SE.en, x.born ∈ seen
    · have e1 := seenS_all fun e he => hall _ (List.mem_map.2 ⟨e, he, rfl⟩)
      rw [e1] at HP
      have HS := sortStore_does oa O.length oc O rfl hOn
      go_wp2_with (first | (at_next; (refine wpList_nextE (b := b) hO pk_ pk_ rfl _ rfl rfl hold (Nat.le_refl _) (fun _ => ?_) (fun x8 _ hx8 hn8 _ => absurd (hall x8 hx8) hn8))) | (go_at_call 163; (with_reducible refine Does.use hO (HS) tk_ (du_ ?_); clear hO; (try clear hf); intro x9 w9 hO hf)) | (refine sq_ ?_; clear hO; (try clear hf); intro w9 hO hf))
      rename List Rw => O'
      obtain ⟨hp1, hp2⟩ := hO.factOf (r := .pure (O'.Perm O ∧ O'.Pairwise fun x y => slt y.key x.key = false)) pk_
      have e2 := sorted_is hok.ups ((hp1.trans HP.out).trans hok.perm) hp2
      have e3 : O.length = R.length := by rw [← e2]; exact hp1.length_eq.symm
      rw [e2, e3] at hO
      rw [e3]
      have hO := hO.toPure (p := SesOk L clock R) hok
      have h8 : Own S W _ (StM b R :: Var s [d, h0, h1, h2, h3, lg, .map (some b)] 233 :: Row2 177 2 oa R.length oc (R.flatMap rwC) :: L0) := Own.toEx (clock, L) (Own.pack (by dsimp only; (try simp only [CA]); exact hO.cut sb_))
      go_ret
      refine ⟨(oa, oc), rfl, ?_⟩
      dsimp only
      (try simp only [CA])
      exact h8.cut sb_
    · go_wp2_with (first | (at_next; (refine wpList_nextE (b := b) hO pk_ pk_ rfl _ rfl rfl hold (Nat.le_refl _) (fun h8 => absurd h8 hall) ?_; clear hO; intro x9 w9 hx9 hn9 hO; obtain ⟨e9, he9, rfl⟩ := List.mem_map.1 hx9; clear hx9; (replace hf := fa_ hO))) | (with_reducible show wpList _ _ _ (Oper.mk _ (.entry _) _ _ _ _ :: _) _ _; (refine wpList_entryE (b := b) (x := SE.en e9) hO pk_ pk_ rfl _ rfl rfl (List.mem_map.2 ⟨e9, he9, rfl⟩) hborn ?_; dsimp only [SE.en])) | (at_builtin; (refine wpList_append_var (e := 177) (size := 2) (xs := O.flatMap rwC) (news := [.string e9.key, .string e9.val]) hO pk_ pk_ rfl (.tmp 16) (.tmp 20) 32 rfl iR _ 32 Tryz.underlying32 hiR hzR hsR hbR rfl (by omega) rfl _ _ rfl (by rfl) (by repeat (first | exact ones_nil | refine ones_cons rfl ?_)) (by unfold maxLen; omega) (by omega) ?_; clear hO; intro ka9 kc9 w9 hO; (replace hf := fa_ hO))) | (refine sq_ ?_; clear hO; (try clear hf); intro w9 hO hf))
      have HST := Lib.hid (seenS_more (O := O) hok.borns he9 (by simpa [SE.en] using hn9) HP.out)
      have e3 := seenOf_at hO pk_
      rw [e3]
      have hl : (O ++ [(⟨e9.key, e9.val⟩ : Rw)]).length = O.length + 1 := by rw [List.length_append]; rfl
      refine ⟨⟨seen ++ [(SE.en e9).born], ka9, kc9, O ++ [(⟨e9.key, e9.val⟩ : Rw)], by rw [hl], HST, ?_⟩, leftE_lt he9 hn9⟩
      rw [hl, flat_snoc]
      (try simp only [CA])
      exact hO.cut sb_
end Go.Proofs.YtagcmjmcjpjihaaGreatDoor
namespace Go.Proofs.YtagcmjmcjpjihaaGreatDoor
open Go.RowKit
end Go.Proofs.YtagcmjmcjpjihaaGreatDoor
