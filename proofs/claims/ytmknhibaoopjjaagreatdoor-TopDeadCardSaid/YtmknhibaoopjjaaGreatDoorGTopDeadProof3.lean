/- Texts Ops, More, Tree, Plan of this claim, laid together. -/
import Derived.Test.YtmknhibaoopjjaaGreatDoorGTopDeadProof2
import Derived.Laws.CopyOwn
import Derived.OwnWalk
import Derived.Lib.Hide
set_option linter.unusedVariables false
set_option linter.unusedSimpArgs false
set_option linter.unnecessarySimpa false
namespace Go.Proofs.YtmknhibaoopjjaaGreatDoor
open Go.RowKit

/-- What lies behind the first ones may be anything. -/
inductive Keeps : List Rs → List Rs → Prop
  | here (l : List Rs) : Keeps l l
  | skip (x : Rs) {l l' : List Rs} : Keeps l l' → Keeps (x :: l) l'
theorem Keeps.stars {w : World} : ∀ {l l' : List Rs} {M Z : Nat → Prop}, Keeps l l' → Stars w l M Z → Stars w l' M Z
  | _, _, _, _, .here _, h => h
  | _, _, _, _, .skip _ hk, ⟨_, _, _, h2, _, s2, _⟩ => (hk.stars h2).mono s2 (fun _ h => h)
theorem ones_nil : ∀ u ∈ ([] : List Value), u.oneCell' = true := fun u hu => by cases hu
theorem ones_cons {v : Value} {l : List Value} (h : v.oneCell' = true) (k : ∀ u ∈ l, u.oneCell' = true) : ∀ u ∈ v :: l, u.oneCell' = true := fun u hu => by
  rcases List.mem_cons.1 hu with rfl | hu
  · exact h
  · exact k u hu
theorem add_off (g off j : Nat) : (⟨g, off, none⟩ : Addr).add j = ⟨g, off + j, none⟩ := by unfold Addr.add; split <;> simp_all
/-- Some of them, in another order; what is left may be anything. -/
inductive Sub : List Rs → List Rs → Prop
  | base {l l' : List Rs} : Keeps l l' → Sub l l'
  | cons {l l1 l' : List Rs} {r : Rs} : Pick l r l1 → Sub l1 l' → Sub l (r :: l')
theorem Sub.stars {w : World} : ∀ {l l' : List Rs} {M Z : Nat → Prop}, Sub l l' → Stars w l M Z → Stars w l' M Z
  | _, _, _, _, .base hk, h => hk.stars h
  | _, _, _, _, .cons hp hs, h => by
    obtain ⟨M1, M2, h1, h2, s1, s2, d⟩ := hp.stars h
    exact ⟨M1, M2, h1, hs.stars h2, s1, s2, d⟩
theorem sb_ {l l' : List Rs} (h : Sub l l' := by repeat (first | with_reducible apply Sub.cons | with_reducible exact Pick.here _ _ | with_reducible apply Pick.there | with_reducible apply Sub.base | with_reducible exact Keeps.here _ | with_reducible apply Keeps.skip)) : Sub l l' := h
theorem kp_ {l l' : List Rs} (h : Keeps l l' := by repeat (first | exact Keeps.here _ | apply Keeps.skip)) : Keeps l l' := h
theorem xt_ {w w' : World} (h : Ext w w' := by repeat (first | exact Ext.refl _ | assumption | refine Ext.of_drew ?_ | refine Ext.alloc ?_ _ | refine Ext.drew ?_ | refine Ext.trans ?_ (by assumption))) : Ext w w' := h
section
variable {S : Nat → Prop} {W w w' : World} {l l' l0 l1 rs : List Rs} {r r' : Rs}
theorem Own.cut (h : Own S W w l) (hs : Sub l l') : Own S W w l' := by
  obtain ⟨hc, M, Z, h1, rest⟩ := h
  exact ⟨hc, M, Z, hs.stars h1, rest⟩
theorem Own.give (h : Own S W w l) (ht : Takes l rs l1) (hk : Keeps l1 l0) : Own S W w (rs ++ l0) := by
  obtain ⟨hc, M, Z, hs, rest⟩ := h.take ht
  obtain ⟨N1, N2, k1, k2, t1, t2, e⟩ := hs.append
  exact ⟨hc, M, Z, Stars.join k1 (hk.stars k2) t1 t2 e, rest⟩
/-- A slice that was written out is a row. -/
theorem Own.varRow {b n size : Nat} {cs : List Value} {e : TypeId} (hn : cs.length = n * size) (hm : n ≤ maxLen) (h : Own S W w (Var b cs e :: l)) : Own S W w (Row2 e size (some ⟨b, 0, none⟩) n n cs :: l) :=
  h.map1 (r := Var b cs e) (r' := Row2 e size (some ⟨b, 0, none⟩) n n cs) fun w M Z ⟨h1, h2⟩ => ⟨⟨hn, .inr ⟨b, n, cs.toArray, rfl, Nat.zero_le _, h1, Nat.le_refl _, hm, by simpa using hn, by rw [← hn]; simp⟩⟩, fun b' hb => by simp [Value.ownBlock] at hb; subst hb; exact h2⟩
theorem Var.at {b : Nat} {cs : List Value} {t : TypeId} (h : (Var b cs t).facts w) : ∀ j u, cs[j]? = some u → w.cell? ⟨b, 0 + j, none⟩ = some u := fun j u hj => by
  rw [Nat.zero_add]; exact Var.cells (t := t) h.1 hj
theorem vals_src {g off : Nat} {xs : List Value} (h : ValsAt w (some ⟨g, off, none⟩) xs) : ∀ j u, xs[j]? = some u → w.cell? ⟨g, off + j, none⟩ = some u := fun j u hj => h.get hj
theorem Own.factOf (h : Own S W w l) (hp : Pick l r l') : r.facts w := (h.pick hp).facts.1
theorem Own.vals {e : TypeId} {size n cap : Nat} {a : Option Addr} {xs : List Value} (h : Own S W w l) (hp : Pick l (Row2 e size a n cap xs) l') : ValsAt w a xs := (h.factOf hp).1
theorem Own.rowCut {e : TypeId} {size n cap : Nat} {a : Option Addr} {xs : List Value} (m : Nat) (hm : m ≤ n) (h : Own S W w (Row2 e size a n cap xs :: l)) : Own S W w (Row2 e size a m cap (xs.take (m * size)) :: l) :=
  h.map1 (r := Row2 e size a n cap xs) (r' := Row2 e size a m cap (xs.take (m * size))) fun w M Z ⟨h1, h2⟩ => ⟨⟨by rw [List.length_take, h1.1]; exact Nat.min_eq_left (Nat.mul_le_mul_right _ hm), by
    rcases h1.2 with ⟨hv, h0⟩ | ⟨g, c, cur, hv, hb, hg, h3, h4, h5, h6⟩
    · injection hv with q1 q2 q3
      subst q1; subst q3
      have : m = 0 := by omega
      subst this
      exact .inl ⟨rfl, rfl⟩
    · injection hv with q1 q2 q3
      subst q1; subst q3
      exact .inr ⟨g, cap, cur, rfl, hb, hg, by omega, h4, h5, by rw [← h6, List.take_take, Nat.min_eq_left (Nat.mul_le_mul_right _ hm)]⟩⟩,
    fun b hb => h2 b (by cases a <;> simpa [Value.ownBlock] using hb)⟩
end
section
variable {P : Program} {S : Nat → Prop} {W w : World} {l l' l0 l1 : List Rs} {ops : Array Oper} {rest : List Oper} {a : Act} {Q : Exit → Act → World → Prop} {c : Code} {o : Oper}
/-- A slice of the call's own is appended to another one. -/
theorem wpList_append_var (hO : Own S W w l) {e : TypeId} {size : Nat} {va : Option Addr} {n vc : Nat} {xs : List Value} (hp : Pick l (Row2 e size va n vc xs) l0) {g : Nat} {news : List Value} {t' : TypeId} (hp2 : Pick l0 (Var g news t') l1)
    (hgd : o.guard = none) (s x : Operand) (t : TypeId) (ho : o.op = .call { callee := .builtin .append, args := #[s, x], argTypes := #[t, t] })
    (i : TypeInfo) (z : Value) (bytes : Nat) (ht : P.underlying t = some (.slice e)) (hi : P.info? e = some i) (hz : i.zero = some z)
    (hsize : i.size = size) (hby : i.bytes = bytes) (hzs : z.cells.size = size) (hsz : 0 < size) (hs : a.eval s = .slice va n vc)
    (m c : Nat) (hx : a.eval x = .slice (some ⟨g, 0, none⟩) m c) (hl : news.length = m * size) (h1 : ∀ u ∈ news, u.oneCell' = true)
    (h63 : n + m ≤ maxLen) (hbytes : (n + m) * bytes ≤ 140737488355328)
    (h : ∀ ka kc w', Own S W w' (Row2 e size ka (n + m) kc (xs ++ news) :: l1) → wpList P ops Q rest (a.put o.dst (.slice ka (n + m) kc)) w') : wpList P ops Q (o :: rest) a w := by
  have hf := ((hO.pick hp).facts).2
  refine wpList_append_own2 hO hp hgd s x t ho i z bytes ht hi hz hsize hby hzs hsz hs g 0 m c news hx hl (Var.at (t := t') ((hO.pick hp).tail.factOf hp2)) h1 h63 hbytes fun ka kc w' hO' => h ka kc w' ?_
  have := hO'.pick (.there _ hp2)
  exact this.tail
end
section
variable {P : Program} {S : Nat → Prop} {W w : World} {l : List Rs} {ops : Array Oper} {I : World → Prop} {ord : List (Nat × Nat)} {a : Act} {Q : Exit → Act → World → Prop}
theorem inRun_alloc_own {cs : List Value} {t : TypeId} (hO : Own S W w l) (k : ∀ w', Own S W w' (Var w.heap.size cs t :: l) → inRun P ops I Q ord a w') : inRun P ops I Q ord a (w.alloc (.cells cs.toArray t)) := k _ (hO.alloc cs t)
theorem inRun_set_own {p : Addr} {v : Value} {L : List Rs} (hO : Own S W (w.setCell p v) L) (k : ∀ w', Own S W w' L → inRun P ops I Q ord a w') : inRun P ops I Q ord a (w.setCell p v) := k _ hO
end
/-- Rows of k cells, laid one behind the other. -/
theorem flat_at {α : Type} {f : α → List Value} {k : Nat} (hf : ∀ x, (f x).length = k) : ∀ {l : List α} {j : Nat} (h : j < l.length) (c : Nat) (v : Value), (f l[j])[c]? = some v → (l.flatMap f)[j * k + c]? = some v
  | [], j, h, _, _, _ => by simp at h
  | x :: l, 0, h, c, v, hv => by
    simp only [List.flatMap_cons, Nat.zero_mul, Nat.zero_add]
    have hv' : (f x)[c]? = some v := hv
    rw [List.getElem?_append_left (List.getElem?_eq_some_iff.1 hv').1]; exact hv'
  | x :: l, j + 1, h, c, v, hv => by
    have h1 : (f x).length = k := hf x
    have h2 : (f x).length ≤ (j + 1) * k + c := by rw [h1, Nat.succ_mul]; omega
    have h3 : (j + 1) * k + c - (f x).length = j * k + c := by rw [h1, Nat.succ_mul]; omega
    rw [List.flatMap_cons, List.getElem?_append_right h2, h3]
    exact flat_at hf (by simpa using h) c v hv
theorem flat_length {α : Type} {f : α → List Value} {k : Nat} (hf : ∀ x, (f x).length = k) (l : List α) : (l.flatMap f).length = l.length * k := by
  induction l with
  | nil => simp
  | cons x l ih => simp only [List.flatMap_cons, List.length_append, hf, ih, List.length_cons, Nat.succ_mul]; omega
end Go.Proofs.YtmknhibaoopjjaaGreatDoor
namespace Go.Proofs.YtmknhibaoopjjaaGreatDoor
open Go.RowKit
theorem Own.immOf {S : Nat → Prop} {W w : World} {l l' : List Rs} {φ : World → Prop} (h : Own S W w l) (hp : Pick l (.imm φ) l') : φ w := h.factOf hp
theorem Own.varAt {S : Nat → Prop} {W w : World} {l l' : List Rs} {b k : Nat} {v : Value} {cs : List Value} {t : TypeId} (h : Own S W w l) (hp : Pick l (Var b cs t) l') (hk : cs[k]? = some v) : w.cell? ⟨b, k, none⟩ = some v :=
  Var.cells (t := t) (show (Var b cs t).facts w from h.factOf hp).1 hk
theorem Own.named {S : Nat → Prop} {W w : World} {l : List Rs} {b : Nat} {cs : List Value} {t : TypeId} (h : Own S W w (Var b cs t :: l)) : ∃ g, g = b := ⟨b, rfl⟩
theorem Own.lt {S : Nat → Prop} {W w : World} {l : List Rs} {b : Nat} {cs : List Value} {t : TypeId} (h : Own S W w (Var b cs t :: l)) : b < w.heap.size := h.facts.1.2.2
theorem run_append_zero {P : Program} (w : World) (t ty e : TypeId) (i : TypeInfo) (ht : P.underlying t = some (.slice e)) (hi : P.info? e = some i) (va ax : Option Addr) (n vc c : Nat) (hn : n ≤ vc) :
    (Builtin.append_ #[t, t] ty #[.slice va n vc, .slice ax 0 c]).run P w = .ok (.slice va n vc) w := by
  cases va <;> cases ax <;> simp [Builtin.append_, run_underlying ht, sizeOf, typeInfo, hi, Builtin.lenOf, Builtin.firstCells, hn, storeCells, loadCells, loadCellsFrom]
section
variable {P : Program} {S : Nat → Prop} {W w : World} {l l' l0 l1 : List Rs} {ops : Array Oper} {rest : List Oper} {a : Act} {Q : Exit → Act → World → Prop} {c : Code} {o : Oper}
/-- Append of what is only looked at, none of it perhaps. -/
theorem wpList_append_src (hO : Own S W w l) {e : TypeId} {size : Nat} {va : Option Addr} {n vc : Nat} {xs : List Value} (hp : Pick l (Row2 e size va n vc xs) l0) (hgd : o.guard = none) (s x : Operand) (t : TypeId)
    (ho : o.op = .call { callee := .builtin .append, args := #[s, x], argTypes := #[t, t] })
    (i : TypeInfo) (z : Value) (bytes : Nat) (ht : P.underlying t = some (.slice e)) (hi : P.info? e = some i) (hz : i.zero = some z)
    (hsize : i.size = size) (hby : i.bytes = bytes) (hzs : z.cells.size = size) (hsz : 0 < size) (hs : a.eval s = .slice va n vc)
    (ax : Option Addr) (m c : Nat) (news : List Value) (hx : a.eval x = .slice ax m c) (hl : news.length = m * size) (hnews : ValsAt w ax news) (h1 : ∀ u ∈ news, u.oneCell' = true)
    (h63 : n + m ≤ maxLen) (hbytes : (n + m) * bytes ≤ 140737488355328)
    (h : ∀ ka kc w', Own S W w' (Row2 e size ka (n + m) kc (xs ++ news) :: l0) → wpList P ops Q rest (a.put o.dst (.slice ka (n + m) kc)) w') : wpList P ops Q (o :: rest) a w := by
  rcases hnews with rfl | ⟨g, off, rfl, hc⟩
  · have hm : m = 0 := by
      rcases Nat.eq_zero_or_pos m with h | h
      · exact h
      · have := Nat.mul_pos h hsz; simp at hl; omega
    subst hm
    have hle := (hO.rowLen hp).2.1
    refine wpList_plain hgd fun K hK => ?_
    unfold Oper.wp execOp
    simp only [ho, resolve, invoke, builtin, Sem.run_bind, Sem.run_pure, Result.andThen_ok, List.map_toArray, List.map_cons, List.map_nil, hs, hx, run_append_zero w t o.type e i ht hi va ax n vc c hle]
    have := h va vc w (by rw [List.append_nil]; exact hO.pick hp)
    exact hK _ _ this
  · exact wpList_append_own2 hO hp hgd s x t ho i z bytes ht hi hz hsize hby hzs hsz hs g off m c news hx hl (fun j u hj => by
      obtain ⟨hlt, rfl⟩ := List.getElem?_eq_some_iff.1 hj
      exact hc j hlt) h1 h63 hbytes h
end
end Go.Proofs.YtmknhibaoopjjaaGreatDoor
namespace Go.Proofs.YtmknhibaoopjjaaGreatDoor
open Go.RowKit
section
variable {P : Program} {ops : Array Oper} {md : Region.Mode} {I : World → Prop}
end
end Go.Proofs.YtmknhibaoopjjaaGreatDoor
namespace Go.Proofs.YtmknhibaoopjjaaGreatDoor
open Go.RowKit
section
variable {P : Program} {I : World → Prop}
end
end Go.Proofs.YtmknhibaoopjjaaGreatDoor
