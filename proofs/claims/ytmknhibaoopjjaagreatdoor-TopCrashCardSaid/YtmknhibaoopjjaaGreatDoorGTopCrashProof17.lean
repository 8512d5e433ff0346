/- Texts Ver, Ver2, Ver3 of this claim, laid together. -/
import Derived.Test.YtmknhibaoopjjaaGreatDoorGTopCrashProof5
import Derived.Test.YtmknhibaoopjjaaGreatDoorGTopCrashProof15
set_option linter.unusedVariables false
set_option linter.unusedSimpArgs false
namespace Go.Proofs.YtmknhibaoopjjaaGreatDoor
open Go.RowKit
theorem Stars.perm {w : World} {l l' : List Rs} (h : l.Perm l') : ∀ {M Z : Nat → Prop}, Stars w l M Z → Stars w l' M Z := by
  induction h with
  | nil => exact fun h => h
  | cons x _ ih => exact fun ⟨M1, M2, h1, h2, r⟩ => ⟨M1, M2, h1, ih h2, r⟩
  | swap x y l => exact fun h => (Pick.there y (Pick.here x l)).stars h
  | trans _ _ ih1 ih2 => exact fun h => ih2 (ih1 h)
theorem Own.perm {S : Nat → Prop} {W w : World} {l l' : List Rs} (h : Own S W w l) (hp : l.Perm l') : Own S W w l' := by
  obtain ⟨hc, M, Z, hs, rest⟩ := h
  exact ⟨hc, M, Z, hs.perm hp, rest⟩
/-- A row's versions as they lie in memory. -/
structure VE where
  key : ByteArray
  born : Nat
  addr : Option Addr
  cap : Nat
  vs : List Vn
def VE.en (e : VE) : En := ⟨e.key, .slice e.addr e.vs.length e.cap, e.born⟩
def VE.row (e : VE) : Rs := Row2 124 3 e.addr e.vs.length e.cap (e.vs.flatMap verC)
def VE.kv (e : VE) : ByteArray × List Vn := (e.key, e.vs)
/-- Entries that may be: no key twice, no stamp twice, all stamps below the clock. -/
structure VesOk (L : List VE) (clock : Nat) : Prop where
  keys : (L.map VE.key).Nodup
  borns : (L.map VE.born).Nodup
  lt : ∀ e ∈ L, e.born < clock
def Rows (L : List VE) : Rs := .many (L.map VE.row)
def getV (V : List (ByteArray × List Vn)) (k : ByteArray) : Option (List Vn) := (V.find? fun e => decide (e.1 = k)).map (·.2)
def readV (V : List (ByteArray × List Vn)) (k : ByteArray) (n : Int) : ByteArray × Bool := atV ((getV V k).getD []) n
section
variable {S : Nat → Prop} {W w : World} {l : List Rs} {e : VE} {L L' : List VE}
end
section
variable {P : Program} {w : World} {ops : Array Oper} {rest : List Oper} {a : Act} {Q : Exit → Act → World → Prop} {o : Oper} {b clock : Nat} {E : List En} {t kt e : TypeId} {k : ByteArray}
end
end Go.Proofs.YtmknhibaoopjjaaGreatDoor
namespace Go.Proofs.YtmknhibaoopjjaaGreatDoor
open Go.RowKit
def seenOf (r : Nat) (w : World) : List Nat := match w.heap[r]? with
  | some (.mapIter _ _ s _) => s.toList
  | _ => []
theorem seenOf_at {S : Nat → Prop} {W w : World} {l l0 : List Rs} {r b since c0 : Nat} {seen : List Nat} (hO : Own S W w l) (hp : Pick l (ItR r b since seen c0) l0) : seenOf r w = seen := by
  have h : w.heap[r]? = some (.mapIter (some b) since seen.toArray c0) := hO.obAt hp
  unfold seenOf; rw [h]
end Go.Proofs.YtmknhibaoopjjaaGreatDoor
namespace Go.Proofs.YtmknhibaoopjjaaGreatDoor
open Go.RowKit
theorem flat_get {α : Type} (f : α → List Value) (s : Nat) (hf : ∀ x, (f x).length = s) : ∀ (l : List α) (i : Nat) (hi : i < l.length) (c : Nat), c < s → (l.flatMap f)[i * s + c]? = (f l[i])[c]?
  | x :: l, 0, _, c, hc => by
    rw [List.flatMap_cons, List.getElem?_append_left (by rw [hf]; omega)]
    simp
  | x :: l, i + 1, hi, c, hc => by
    have e : (i + 1) * s + c = s + (i * s + c) := by rw [Nat.succ_mul]; omega
    rw [List.flatMap_cons, List.getElem?_append_right (by rw [hf]; omega), hf, e, Nat.add_sub_cancel_left, flat_get f s hf l i (by simpa using hi) c hc]
    rfl
theorem flat_len {α : Type} (f : α → List Value) (s : Nat) (hf : ∀ x, (f x).length = s) : ∀ (l : List α), (l.flatMap f).length = l.length * s
  | [] => by simp
  | x :: l => by rw [List.flatMap_cons, List.length_append, hf, flat_len f s hf l, List.length_cons, Nat.succ_mul]; omega
/-- A row: its key, its value. -/
structure Rw where
  key : ByteArray
  val : ByteArray
def rwC (r : Rw) : List Value := [.string r.key, .string r.val]
def newV (l : List Rw) : List (ByteArray × List Vn) := l.map fun r => (r.key, [⟨0, r.val, false⟩])
theorem getE_none {k : ByteArray} : ∀ {E : List En}, (∀ x ∈ E, x.key ≠ k) → getE k E = none
  | [], _ => rfl
  | x :: l, h => by
    have h1 := getE_none (k := k) fun y hy => h y (List.mem_cons_of_mem x hy)
    unfold getE at h1 ⊢
    rw [lookE, if_neg (h x (List.mem_cons_self ..))]
    cases hl : lookE k l with
    | none => rfl
    | some p => rw [hl] at h1; cases h1
theorem VesOk.add {L : List VE} {clock : Nat} (h : VesOk L clock) (e : VE) (hk : ∀ x ∈ L, x.key ≠ e.key) (hb : e.born = clock) : VesOk (L ++ [e]) (clock + 1) where
  keys := by
    rw [List.map_append, List.nodup_append]
    exact ⟨h.keys, by simp, fun a ha b hb he => by
      obtain ⟨x, hx, rfl⟩ := List.mem_map.1 ha
      simp at hb
      exact hk x hx (by rw [he, hb])⟩
  borns := by
    rw [List.map_append, List.nodup_append]
    exact ⟨h.borns, by simp, fun a ha b hb' he => by
      obtain ⟨x, hx, rfl⟩ := List.mem_map.1 ha
      simp at hb'
      have := h.lt x hx
      omega⟩
  lt := fun x hx => by
    rcases List.mem_append.1 hx with hx | hx
    · have := h.lt x hx; omega
    · simp at hx; rw [hx, hb]; omega
section
variable {P : Program} {S : Nat → Prop} {W w : World} {l : List Rs} {ops : Array Oper} {rest : List Oper} {a : Act} {Q : Exit → Act → World → Prop} {o : Oper} {t : TypeId}
/-- 'map[K]V{}'. -/
theorem wpList_newE (hO : Own S W w l) (hg : o.guard = none) (hop : o.op = Op.makeMap t none)
    (h : ∀ b w', Own S W w' (MapR b [] 0 :: l) → wpList P ops Q rest (a.put o.dst (.map (some b))) w') : wpList P ops Q (o :: rest) a w := by
  refine wpList_plain hg fun K' hK' => ?_
  have hrun := run_makeMap (P := P) t w
  unfold Oper.wp
  simp [execOp, hop, hrun, Result.andThen]
  exact hK' _ _ (h _ _ (hO.newOb _))
end
theorem VesOk.put {A B : List VE} {e e' : VE} {clock : Nat} (h : VesOk (A ++ e :: B) clock) (hk : e'.key = e.key) (hb : e'.born = e.born) : VesOk (A ++ e' :: B) clock where
  keys := by
    have := h.keys
    rw [List.map_append, List.map_cons] at this ⊢
    rw [hk]; exact this
  borns := by
    have := h.borns
    rw [List.map_append, List.map_cons] at this ⊢
    rw [hb]; exact this
  lt := fun x hx => by
    rcases List.mem_append.1 hx with hx | hx
    · exact h.lt x (List.mem_append_left _ hx)
    · rcases List.mem_cons.1 hx with rfl | hx
      · rw [hb]; exact h.lt e (List.mem_append_right _ (List.mem_cons_self ..))
      · exact h.lt x (List.mem_append_right _ (List.mem_cons_of_mem _ hx))
end Go.Proofs.YtmknhibaoopjjaaGreatDoor
