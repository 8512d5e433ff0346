/- More on what a call has in hand: names, facts, appends of what is only looked at. No program. -/
import Derived.Test.YtmjdgcgmlgbfjaaDoorOps
set_option linter.unusedVariables false
set_option linter.unusedSimpArgs false
set_option linter.unnecessarySimpa false
namespace Go.Proofs.YtmjdgcgmlgbfjaaDoor
open Go.RowKit
theorem Own.immOf {S : Nat → Prop} {W w : World} {l l' : List Rs} {φ : World → Prop} (h : Own S W w l) (hp : Pick l (.imm φ) l') : φ w := h.factOf hp
theorem Own.varAt {S : Nat → Prop} {W w : World} {l l' : List Rs} {b k : Nat} {v : Value} {cs : List Value} {t : TypeId} (h : Own S W w l) (hp : Pick l (Var b cs t) l') (hk : cs[k]? = some v) : w.cell? ⟨b, k, none⟩ = some v :=
  Var.cells (t := t) (show (Var b cs t).facts w from h.factOf hp).1 hk
theorem Own.named {S : Nat → Prop} {W w : World} {l : List Rs} {b : Nat} {cs : List Value} {t : TypeId} (h : Own S W w (Var b cs t :: l)) : ∃ g, g = b := ⟨b, rfl⟩
theorem Own.lt {S : Nat → Prop} {W w : World} {l : List Rs} {b : Nat} {cs : List Value} {t : TypeId} (h : Own S W w (Var b cs t :: l)) : b < w.heap.size := h.facts.1.2.2
theorem run_append_zero {P : Program} (w : World) (t ty e : TypeId) (i : TypeInfo) (ht : P.underlying t = some (.slice e)) (hi : P.info? e = some i) (va ax : Option Addr) (n vc c : Nat) (hn : n ≤ vc) :
    (Builtin.append_ #[t, t] ty #[.slice va n vc, .slice ax 0 c]).run P w = .ok (.slice va n vc) w := by
  cases va <;> cases ax <;> simp [Builtin.append_, run_underlying ht, sizeOf, typeInfo, hi, Builtin.lenOf, Builtin.firstCells, hn, storeCells, loadCells, loadCellsFrom]
section
variable {P : Program} {S : Nat → Prop} {W w : World} {l l' l0 l1 : List Rs} {ops : Array Oper} {rest : List Oper} {a : Act} {Q : Exit → Act → World → Prop} {c : Code} {o : Oper}
/-- Append of what is only looked at, none of it perhaps. -/
theorem wpList_append_src (hO : Own S W w l) {e : TypeId} {size : Nat} {va : Option Addr} {n vc : Nat} {xs : List Value} (hp : Pick l (Row2 e size va n vc xs) l0) (hgd : o.guard = none) (s x : Operand) (t : TypeId)
    (ho : o.op = .call { callee := .builtin .append, args := #[s, x], argTypes := #[t, t] })
    (i : TypeInfo) (z : Value) (bytes : Nat) (ht : P.underlying t = some (.slice e)) (hi : P.info? e = some i) (hz : i.zero = some z)
    (hsize : i.size = size) (hby : i.bytes = bytes) (hzs : z.cells.size = size) (hsz : 0 < size) (hs : a.eval s = .slice va n vc)
    (ax : Option Addr) (m c : Nat) (news : List Value) (hx : a.eval x = .slice ax m c) (hl : news.length = m * size) (hnews : ValsAt w ax news) (h1 : ∀ u ∈ news, u.oneCell' = true)
    (h63 : n + m ≤ maxLen) (hbytes : (n + m) * bytes ≤ 140737488355328)
    (h : ∀ ka kc w', Own S W w' (Row2 e size ka (n + m) kc (xs ++ news) :: l0) → wpList P ops Q rest (a.put o.dst (.slice ka (n + m) kc)) w') : wpList P ops Q (o :: rest) a w := by
  rcases hnews with rfl | ⟨g, off, rfl, hc⟩
  · have hm : m = 0 := by
      rcases Nat.eq_zero_or_pos m with h | h
      · exact h
      · have := Nat.mul_pos h hsz; simp at hl; omega
    subst hm
    have hle := (hO.rowLen hp).2.1
    refine wpList_plain hgd fun K hK => ?_
    unfold Oper.wp execOp
    simp only [ho, resolve, invoke, builtin, Sem.run_bind, Sem.run_pure, Result.andThen_ok, List.map_toArray, List.map_cons, List.map_nil, hs, hx, run_append_zero w t o.type e i ht hi va ax n vc c hle]
    have := h va vc w (by rw [List.append_nil]; exact hO.pick hp)
    exact hK _ _ this
  · exact wpList_append_own2 hO hp hgd s x t ho i z bytes ht hi hz hsize hby hzs hsz hs g off m c news hx hl (fun j u hj => by
      obtain ⟨hlt, rfl⟩ := List.getElem?_eq_some_iff.1 hj
      exact hc j hlt) h1 h63 hbytes h
end
/-- A thing of the elder kind. -/
def Rs.ofRes (r : Res) : Rs where
  holds w M _ := ∃ F, r.holds w F ∧ ∀ b, F b → M b
  facts w := ∃ F, r.holds w F
  mono := fun ⟨F, h, hF⟩ hM _ => ⟨F, h, fun b hb => hM b (hF b hb)⟩
  keep := fun ⟨F, h, hF⟩ hk => ⟨F, r.keep h (fun b hb => hk b (.inl (hF b hb)) (r.here h hb)), hF⟩
  tells := fun ⟨F, h, _⟩ => ⟨F, h⟩
/-- A contract of the elder kind: thing r is turned into r'. -/
theorem does_ofRes {P : Program} {f : FuncId} {args : Array Value} {v : Value} {r r' : Res} {φ : World → Prop}
    (h : ∀ F w, r.holds w F → φ w → Calls P f args w fun e w' => e = .returned v ∧ ∃ F', r'.holds w' F' ∧ Chg F w w' ∧ ∀ b, F' b → F b ∨ w.heap.size ≤ b) :
    Does P f args [.ofRes r, .imm φ] (fun _ : Unit => (v, [.ofRes r', .imm φ])) := by
  intro S W w L0 hO
  simp only [List.cons_append, List.nil_append] at hO
  have hφ : φ w := hO.immOf (.there _ (.here _ _))
  obtain ⟨M, Z, ⟨F, hF, hFM⟩, h2, h3, k⟩ := hO.turn1
  refine (h F w hF hφ).mono fun e w' ⟨he, F', hF', hc, hn⟩ => ⟨(), he, ?_⟩
  exact k w' (.ofRes r') F' (hc.mono hFM) (fun b hb => (hn b hb).imp (hFM b) id) (fun b hb => r'.here hF' hb) ⟨F', hF', fun _ h => h⟩
theorem does_ofRes1 {P : Program} {f : FuncId} {args : Array Value} {v : Value} {r r' : Res}
    (h : ∀ F w, r.holds w F → Calls P f args w fun e w' => e = .returned v ∧ ∃ F', r'.holds w' F' ∧ Chg F w w' ∧ ∀ b, F' b → F b ∨ w.heap.size ≤ b) :
    Does P f args [.ofRes r] (fun _ : Unit => (v, [.ofRes r'])) := by
  intro S W w L0 hO
  simp only [List.cons_append, List.nil_append] at hO
  obtain ⟨M, Z, ⟨F, hF, hFM⟩, h2, h3, k⟩ := hO.turn1
  refine (h F w hF).mono fun e w' ⟨he, F', hF', hc, hn⟩ => ⟨(), he, ?_⟩
  exact k w' (.ofRes r') F' (hc.mono hFM) (fun b hb => (hn b hb).imp (hFM b) id) (fun b hb => r'.here hF' hb) ⟨F', hF', fun _ h => h⟩
theorem reads_ofRes {P : Program} {f : FuncId} {args : Array Value} {v : Value} {r : Res} {φ : World → Prop}
    (h : ∀ F w, r.holds w F → φ w → Calls P f args w fun e w' => e = .returned v ∧ Ext w w') : Reads P f args [.ofRes r, .imm φ] v := by
  intro w L0 hO
  simp only [List.map_cons, List.map_nil, List.cons_append, List.nil_append] at hO
  have h1 : (Rs.frz (Rs.ofRes r)).facts w := hO.factOf (.here _ _)
  have h2 : (Rs.frz (.imm φ)).facts w := hO.factOf (.there _ (.here _ _))
  obtain ⟨F, hF⟩ : ∃ F, r.holds w F := h1
  exact h F w hF h2
theorem reads_ofRes1 {P : Program} {f : FuncId} {args : Array Value} {v : Value} {r : Res}
    (h : ∀ F w, r.holds w F → Calls P f args w fun e w' => e = .returned v ∧ Ext w w') : Reads P f args [.ofRes r] v := by
  intro w L0 hO
  simp only [List.map_cons, List.map_nil, List.cons_append, List.nil_append] at hO
  have h1 : (Rs.frz (Rs.ofRes r)).facts w := hO.factOf (.here _ _)
  obtain ⟨F, hF⟩ : ∃ F, r.holds w F := h1
  exact h F w hF
end Go.Proofs.YtmjdgcgmlgbfjaaDoor
