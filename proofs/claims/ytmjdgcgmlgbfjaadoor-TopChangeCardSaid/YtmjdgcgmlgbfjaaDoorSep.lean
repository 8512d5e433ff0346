/- What a call has of its own in memory: things apart from each other, each with its blocks. No program. -/
import Derived.Test.YtmjdgcgmlgbfjaaDoorFw
import Derived.Laws.OwnMore
namespace Go.Proofs.YtmjdgcgmlgbfjaaDoor
open Go.RowKit

/-- w' is w with new blocks, and what stands in blocks of S may have turned. -/
structure Chg (S : Nat → Prop) (w w' : World) : Prop where
  os : w'.os = w.os
  tape : w'.tape = w.tape
  output : w'.output = w.output
  size : w.heap.size ≤ w'.heap.size
  block : ∀ k, k < w.heap.size → ¬ S k → w'.heap[k]? = w.heap[k]?
theorem Chg.refl (S : Nat → Prop) (w : World) : Chg S w w := ⟨rfl, rfl, rfl, Nat.le_refl _, fun _ _ _ => rfl⟩
theorem Chg.trans {S : Nat → Prop} {a b c : World} (h : Chg S a b) (k : Chg S b c) : Chg S a c :=
  ⟨k.os.trans h.os, k.tape.trans h.tape, k.output.trans h.output, Nat.le_trans h.size k.size, fun i hi hs => (k.block i (Nat.lt_of_lt_of_le hi h.size) hs).trans (h.block i hi hs)⟩
/-- The second step may turn what the first one has made. -/
theorem Chg.step {S T : Nat → Prop} {a b c : World} (h : Chg S a b) (k : Chg T b c) (ht : ∀ i, T i → S i ∨ a.heap.size ≤ i) : Chg S a c :=
  ⟨k.os.trans h.os, k.tape.trans h.tape, k.output.trans h.output, Nat.le_trans h.size k.size,
    fun i hi hs => (k.block i (Nat.lt_of_lt_of_le hi h.size) (fun hT => (ht i hT).elim hs (by omega))).trans (h.block i hi hs)⟩
theorem Chg.trans' {S T : Nat → Prop} {a b c : World} (h : Chg S a b) (k : Chg T b c) : Chg (fun i => S i ∨ T i) a c :=
  ⟨k.os.trans h.os, k.tape.trans h.tape, k.output.trans h.output, Nat.le_trans h.size k.size, fun i hi hs => (k.block i (Nat.lt_of_lt_of_le hi h.size) (fun e => hs (.inr e))).trans (h.block i hi (fun e => hs (.inl e)))⟩
theorem Chg.mono {S T : Nat → Prop} {w w' : World} (h : Chg S w w') (hs : ∀ i, S i → T i) : Chg T w w' := ⟨h.os, h.tape, h.output, h.size, fun k hk ht => h.block k hk (fun hS => ht (hs k hS))⟩
theorem Chg.ofExt {S : Nat → Prop} {w w' : World} (h : Ext w w') : Chg S w w' := ⟨Below.os h, Below.tape h, Below.output h, Below.size h, fun k hk _ => Below.block h k hk⟩
theorem Chg.toExt {S : Nat → Prop} {w w' : World} (h : Chg S w w') (hs : ∀ i, S i → w.heap.size ≤ i) : Ext w w' := ⟨h.os, h.tape, h.output, h.size, fun k hk => h.block k hk (fun hS => by have := hs k hS; omega)⟩
theorem Chg.toBelow {S : Nat → Prop} {w w' : World} (h : Chg S w w') {B : Nat} (hs : ∀ i, S i → B ≤ i) (hB : B ≤ w.heap.size) : Below B w w' := ⟨h.os, h.tape, h.output, h.size, fun k hk => h.block k (by omega) (fun hS => by have := hs k hS; omega)⟩
theorem Chg.ofGrown {w w' : World} {row : Option Nat} (h : w.grownBy w' row) : Chg (fun k => row = some k) w w' := ⟨h.os, h.tape, h.output, h.size, fun k hk hs => h.block k hk (fun e => hs e.symm)⟩
theorem Chg.setCell (w : World) (p : Addr) (v : Value) : Chg (fun k => k = p.block) w (w.setCell p v) := ⟨rfl, rfl, rfl, by simp [World.setCell], fun k _ hs => Below.heap_setCell _ _ _ _ hs⟩

theorem Ext.chg {w a b : World} {S : Nat → Prop} (h : Ext w a) (k : Chg S a b) (hs : ∀ i, S i → w.heap.size ≤ i) : Ext w b :=
  ⟨k.os.trans (Below.os h), k.tape.trans (Below.tape h), k.output.trans (Below.output h), Nat.le_trans h.size k.size, fun i hi => (k.block i (Nat.lt_of_lt_of_le hi h.size) (fun hS => by have := hs i hS; omega)).trans (h.block i hi)⟩
/-- A thing in memory: where it holds, by which blocks. -/
structure Res where
  holds : World → (Nat → Prop) → Prop
  here : ∀ {w F b}, holds w F → F b → b < w.heap.size
  keep : ∀ {w w' F}, holds w F → (∀ b, F b → w'.heap[b]? = w.heap[b]?) → holds w' F

/-- Things apart from each other. -/
def Star (w : World) : List Res → (Nat → Prop) → Prop
  | [], F => ∀ b, ¬ F b
  | r :: l, F => ∃ F1 F2, r.holds w F1 ∧ Star w l F2 ∧ (∀ b, F1 b → ¬ F2 b) ∧ ∀ b, F b ↔ F1 b ∨ F2 b

theorem Star.here {w : World} : ∀ {l : List Res} {F : Nat → Prop}, Star w l F → ∀ b, F b → b < w.heap.size
  | [], _, h, b, hb => (h b hb).elim
  | r :: _, _, ⟨_, _, h1, h2, _, hF⟩, b, hb => ((hF b).1 hb).elim (fun h => r.here h1 h) (fun h => Star.here h2 b h)
theorem Star.keep {w w' : World} : ∀ {l : List Res} {F : Nat → Prop}, Star w l F → (∀ b, F b → w'.heap[b]? = w.heap[b]?) → Star w' l F
  | [], _, h, _ => h
  | r :: _, _, ⟨F1, F2, h1, h2, hd, hF⟩, hk => ⟨F1, F2, r.keep h1 (fun b hb => hk b ((hF b).2 (.inl hb))), Star.keep h2 (fun b hb => hk b ((hF b).2 (.inr hb))), hd, hF⟩

/-- One of them is looked at, and turned: the others stay as they are. -/
theorem Star.at {w : World} : ∀ {l : List Res} {F : Nat → Prop} (i : Nat) {r : Res}, l[i]? = some r → Star w l F →
    ∃ Fr, r.holds w Fr ∧ (∀ b, Fr b → F b) ∧ ∀ (w' : World) (r' : Res) (Fr' : Nat → Prop), r'.holds w' Fr' → Chg Fr w w' → (∀ b, Fr' b → Fr b ∨ w.heap.size ≤ b) →
      ∃ F', Star w' (l.set i r') F' ∧ ∀ b, F' b → F b ∨ w.heap.size ≤ b
  | [], _, i, _, hi, _ => by simp at hi
  | r0 :: l, F, 0, r, hi, ⟨F1, F2, h1, h2, hd, hF⟩ => by
    simp at hi; subst hi
    refine ⟨F1, h1, fun b hb => (hF b).2 (.inl hb), fun w' r' Fr' hr hc hf => ?_⟩
    refine ⟨fun b => Fr' b ∨ F2 b, ⟨Fr', F2, hr, h2.keep (fun b hb => hc.block b (h2.here b hb) (fun h => hd b h hb)), fun b hb hb2 => ?_, fun b => Iff.rfl⟩, fun b hb => ?_⟩
    · rcases hf b hb with h | h
      · exact hd b h hb2
      · have := h2.here b hb2; omega
    · rcases hb with hb | hb
      · exact (hf b hb).imp (fun h => (hF b).2 (.inl h)) id
      · exact .inl ((hF b).2 (.inr hb))
  | r0 :: l, F, i + 1, r, hi, ⟨F1, F2, h1, h2, hd, hF⟩ => by
    obtain ⟨Fr, hr, hsub, hup⟩ := Star.at (l := l) i (by simpa using hi) h2
    refine ⟨Fr, hr, fun b hb => (hF b).2 (.inr (hsub b hb)), fun w' r' Fr' hr' hc hf => ?_⟩
    obtain ⟨F2', h2', hf'⟩ := hup w' r' Fr' hr' hc hf
    refine ⟨fun b => F1 b ∨ F2' b, ⟨F1, F2', r0.keep h1 (fun b hb => hc.block b (r0.here h1 hb) (fun h => hd b hb (hsub b h))), h2', fun b hb hb2 => ?_, fun b => Iff.rfl⟩, fun b hb => ?_⟩
    · rcases hf' b hb2 with h | h
      · exact hd b hb h
      · have := r0.here h1 hb; omega
    · rcases hb with hb | hb
      · exact .inl ((hF b).2 (.inl hb))
      · exact (hf' b hb).imp (fun h => (hF b).2 (.inr h)) id

/-- What the call has of its own, all of it from block B on. -/
def Owns (B : Nat) (w : World) (l : List Res) : Prop := ∃ F, Star w l F ∧ ∀ b, F b → B ≤ b
theorem Owns.nil (B : Nat) (w : World) : Owns B w [] := ⟨fun _ => False, fun _ h => h, fun _ h => h.elim⟩
theorem Owns.ext {B : Nat} {w w' : World} {l : List Res} (h : Owns B w l) (hx : Ext w w') : Owns B w' l := by
  obtain ⟨F, hs, hB⟩ := h
  exact ⟨F, hs.keep (fun b hb => hx.block b (hs.here b hb)), hB⟩
/-- A new thing. -/
theorem Owns.new {B : Nat} {w w' : World} {l : List Res} {r : Res} {Fr : Nat → Prop} (h : Owns B w l) (hx : Ext w w') (hr : r.holds w' Fr) (hf : ∀ b, Fr b → w.heap.size ≤ b) (hB : B ≤ w.heap.size) : Owns B w' (r :: l) := by
  obtain ⟨F, hs, hb⟩ := h
  refine ⟨fun b => Fr b ∨ F b, ⟨Fr, F, hr, hs.keep (fun b hb => hx.block b (hs.here b hb)), fun b h1 h2 => ?_, fun b => Iff.rfl⟩, fun b h => ?_⟩
  · have := hf b h1; have := hs.here b h2; omega
  · rcases h with h | h
    · have := hf b h; omega
    · exact hb b h
/-- One is looked at, and turned. -/
theorem Owns.at {B : Nat} {w : World} {l : List Res} (h : Owns B w l) (hBw : B ≤ w.heap.size) (i : Nat) {r : Res} (hi : l[i]? = some r) :
    ∃ Fr, r.holds w Fr ∧ (∀ b, Fr b → B ≤ b) ∧ ∀ (w' : World) (r' : Res) (Fr' : Nat → Prop), r'.holds w' Fr' → Chg Fr w w' → (∀ b, Fr' b → Fr b ∨ w.heap.size ≤ b) → Owns B w' (l.set i r') := by
  obtain ⟨F, hs, hb⟩ := h
  obtain ⟨Fr, hr, hsub, hup⟩ := hs.at i hi
  refine ⟨Fr, hr, fun b h => hb b (hsub b h), fun w' r' Fr' hr' hc hf => ?_⟩
  obtain ⟨F', hs', hf'⟩ := hup w' r' Fr' hr' hc hf
  exact ⟨F', hs', fun b h => (hf' b h).elim (hb b) (by omega)⟩
/-- One is dropped. -/
theorem Owns.tail {B : Nat} {w : World} {r : Res} {l : List Res} (h : Owns B w (r :: l)) : Owns B w l := by
  obtain ⟨F, ⟨F1, F2, _, h2, _, hF⟩, hb⟩ := h
  exact ⟨F2, h2, fun b h => hb b ((hF b).2 (.inr h))⟩

/-- A slice that the call made itself: its elements' cells. -/
def Row (e : TypeId) (size : Nat) (v : Value) (n : Nat) (xs : List Value) : Res where
  holds w F := w.ownsRow 0 e size v n xs ∧ ∀ b, F b ↔ v.ownBlock = some b
  here := fun ⟨h, hF⟩ hb => (h.lt _ ((hF _).1 hb)).2
  keep := by
    rintro w w' F ⟨h, hF⟩ hk
    refine ⟨⟨h.1, ?_⟩, hF⟩
    rcases h.2 with h2 | ⟨g, cap, cur, rfl, hb, hg, r⟩
    · exact .inl h2
    · exact .inr ⟨g, cap, cur, rfl, hb, by rw [hk g ((hF g).2 rfl)]; exact hg, r⟩
theorem Row.nil {w : World} (e : TypeId) (size : Nat) : (Row e size (.slice none 0 0) 0 []).holds w (fun _ => False) := ⟨World.ownsRow_nil w 0 e size, fun b => by simp [Value.ownBlock]⟩
/-- Behind an append. -/
theorem Row.grown {w w' : World} {e : TypeId} {size : Nat} {v v' : Value} {n n' : Nat} {xs xs' : List Value} {F : Nat → Prop} (h : (Row e size v n xs).holds w F) (h' : w'.ownsRow 0 e size v' n' xs')
    (hg : w.grownBy w' v.ownBlock) (hb : ∀ b, v'.ownBlock = some b → v.ownBlock = some b ∨ w.heap.size ≤ b) : (Row e size v' n' xs').holds w' (fun b => v'.ownBlock = some b) ∧ Chg F w w' ∧ ∀ b, v'.ownBlock = some b → F b ∨ w.heap.size ≤ b :=
  ⟨⟨h', fun _ => Iff.rfl⟩, (Chg.ofGrown hg).mono (fun i hi => (h.2 i).2 hi), fun b hb' => (hb b hb').imp (fun h1 => (h.2 b).2 h1) id⟩

section
variable {P : Program}
/-- What an append answers lies in the block that it had, or in a new one. -/
theorem run_append_res (w : World) (t ty e : TypeId) (i : TypeInfo) (z : Value) (size bytes : Nat) (ht : P.underlying t = some (.slice e)) (hi : P.info? e = some i) (hz : i.zero = some z)
    (hsize : i.size = size) (hby : i.bytes = bytes) (hzs : z.cells.size = size) (hsz : 0 < size)
    (v : Value) (n : Nat) (xs : List Value) (hown : w.ownsRow 0 e size v n xs)
    (a : Addr) (m c : Nat) (news : List Value) (hl : news.length = m * size) (hnews : ∀ j u, news[j]? = some u → w.cell? (a.add j) = some u) (h1 : ∀ u ∈ news, u.oneCell' = true)
    (h63 : n + m ≤ maxLen) (hbytes : (n + m) * bytes ≤ 140737488355328) :
    ∃ v' w', (Builtin.append_ #[t, t] ty #[v, .slice (some a) m c]).run P w = .ok v' w' ∧ w'.ownsRow 0 e size v' (n + m) (xs ++ news) ∧ w.grownBy w' v.ownBlock ∧
      ∀ b, v'.ownBlock = some b → v.ownBlock = some b ∨ w.heap.size ≤ b := by
  obtain ⟨v', w', hr, h2, h3, h4⟩ := run_append_own (P := P) w 0 t ty e i z size bytes ht hi hz hsize hby hzs hsz v n xs hown a m c news hl hnews h1 h63 hbytes (Nat.zero_le _)
  refine ⟨v', w', hr, h2, h3, ?_⟩
  have h63' : n + m ≤ 9223372036854775807 := by simp only [maxLen] at h63; omega
  subst hsize
  subst hby
  rcases hown.2 with ⟨rfl, rfl⟩ | ⟨g, cap, cur, rfl, hbg, hg, hnc, hcm, hcs, htake⟩
  · by_cases hm : m = 0
    · intro b hb
      rw [h4.2 ⟨rfl, hm⟩] at hb; cases hb
    · have hr2 := run_append_nil (P := P) w t ty e i z ht hi hz a m c news hl hnews (by omega) (by omega) (by have hb := hbytes; simp only [Nat.zero_add] at hb; omega)
      have := hr.symm.trans hr2
      injection this with e1 _
      subst e1
      intro b hb
      simp only [Value.ownBlock, Option.some.injEq] at hb
      exact .inr (by omega)
  · by_cases hroom : n + m ≤ cap
    · have hfit : n * i.size + news.length ≤ cur.size := by rw [hl, hcs, ← Nat.add_mul]; exact Nat.mul_le_mul_right _ hroom
      have hr2 := run_append_room (P := P) w t ty e i ht hi g n cap cur hg a m c news hl hnews h1 hroom hfit
      have := hr.symm.trans hr2
      injection this with e1 _
      subst e1
      exact fun b hb => .inl hb
    · have holds : ∀ j u, xs[j]? = some u → w.cell? ((⟨g, 0, none⟩ : Addr).add j) = some u := hown.cells (g := g) rfl
      have hr2 := run_append_grow (P := P) w t ty e i z ht hi hz ⟨g, 0, none⟩ n cap xs hown.1 holds a m c news hl hnews (by omega) (by omega) (growslice_fits (by omega) hbytes)
      have := hr.symm.trans hr2
      injection this with e1 _
      subst e1
      intro b hb
      simp only [Value.ownBlock, Option.some.injEq] at hb
      exact .inr (by omega)

/-- One thing is appended to a slice of the call's own, through a new row of one. -/
theorem wpList_append_res {w : World} {ops : Array Oper} {rest : List Oper} {o : Oper} {a : Act} {Q : Exit → Act → World → Prop} (hgd : o.guard = none) (s x : Operand) (t : TypeId)
    (ho : o.op = .call { callee := .builtin .append, args := #[s, x], argTypes := #[t, t] })
    (e : TypeId) (i : TypeInfo) (z : Value) (size bytes : Nat) (ht : P.underlying t = some (.slice e)) (hi : P.info? e = some i) (hz : i.zero = some z)
    (hsize : i.size = size) (hby : i.bytes = bytes) (hzs : z.cells.size = size) (hsz : 0 < size)
    (v : Value) (n : Nat) (xs : List Value) (F : Nat → Prop) (hs : a.eval s = v) (hown : (Row e size v n xs).holds w F)
    (g m c : Nat) (news : List Value) (hx : a.eval x = .slice (some ⟨g, 0, none⟩) m c) (hl : news.length = m * size) (hnews : ∀ j u, news[j]? = some u → w.cell? ⟨g, j, none⟩ = some u) (h1 : ∀ u ∈ news, u.oneCell' = true)
    (h63 : n + m ≤ maxLen) (hbytes : (n + m) * bytes ≤ 140737488355328)
    (h : ∀ v' w', (Row e size v' (n + m) (xs ++ news)).holds w' (fun b => v'.ownBlock = some b) → Chg F w w' → (∀ b, v'.ownBlock = some b → F b ∨ w.heap.size ≤ b) → wpList P ops Q rest (a.put o.dst v') w') : wpList P ops Q (o :: rest) a w := by
  have hadd : ∀ j, (⟨g, 0, none⟩ : Addr).add j = ⟨g, j, none⟩ := fun j => by unfold Addr.add; split <;> simp_all
  obtain ⟨v', w', hr, h2, h3, h4⟩ := run_append_res (P := P) w t o.type e i z size bytes ht hi hz hsize hby hzs hsz v n xs hown.1 ⟨g, 0, none⟩ m c news hl (fun j u hj => by rw [hadd]; exact hnews j u hj) h1 h63 hbytes
  obtain ⟨k1, k2, k3⟩ := Row.grown hown h2 h3 h4
  refine wpList_plain hgd fun K hK => ?_
  unfold Oper.wp execOp
  simp only [ho, resolve, invoke, builtin, Sem.run_bind, Sem.run_pure, Result.andThen_ok, List.map_toArray, List.map_cons, List.map_nil, hs, hx, hr]
  exact hK _ _ (h v' w' k1 k2 k3)
end

/-- A block that is known whole: a variable, a struct. -/
def Box (b : Nat) (cs : List Value) (t : TypeId) : Res where
  holds w F := w.heap[b]? = some (.cells cs.toArray t (0, 0)) ∧ ∀ k, F k ↔ k = b
  here := fun ⟨h, hF⟩ hk => by rw [(hF _).1 hk]; exact (Array.getElem?_eq_some_iff.1 h).1
  keep := fun ⟨h, hF⟩ hk => ⟨by rw [hk b ((hF b).2 rfl)]; exact h, hF⟩
theorem Box.cell {w : World} {F : Nat → Prop} {b : Nat} {cs : List Value} {t : TypeId} (h : (Box b cs t).holds w F) {i : Nat} {v : Value} (hi : cs[i]? = some v) : w.cell? ⟨b, i, none⟩ = some v := by
  rw [cell_of_row w b i _ t (0, 0) h.1]; simpa using hi
theorem Box.free {w : World} {F : Nat → Prop} {b : Nat} {cs : List Value} {t : TypeId} (h : (Box b cs t).holds w F) (i : Nat) : w.frozen? ⟨b, i, none⟩ = false := by
  simp [World.frozen?, h.1]
theorem Box.set {w : World} {F : Nat → Prop} {b : Nat} {cs : List Value} {t : TypeId} (h : (Box b cs t).holds w F) (i : Nat) (v : Value) : (Box b (cs.set i v) t).holds (w.setCell ⟨b, i, none⟩ v) F ∧ Chg F w (w.setCell ⟨b, i, none⟩ v) := by
  refine ⟨⟨?_, h.2⟩, (Chg.setCell w ⟨b, i, none⟩ v).mono (fun k hk => (h.2 k).2 hk)⟩
  simp [World.setCell, Array.getElem?_modify, h.1]
theorem Box.new (w : World) (cs : List Value) (t : TypeId) : (Box w.heap.size cs t).holds (w.alloc (.cells cs.toArray t)) (fun k => k = w.heap.size) :=
  ⟨heap_alloc_new w _, fun _ => Iff.rfl⟩
theorem Row.shape {w : World} {F : Nat → Prop} {e : TypeId} {size : Nat} {v : Value} {n : Nat} {xs : List Value} (h : (Row e size v n xs).holds w F) : ∃ a cap, v = .slice a n cap := by
  rcases h.1.2 with ⟨rfl, rfl⟩ | ⟨g, cap, cur, rfl, _⟩
  · exact ⟨_, _, rfl⟩
  · exact ⟨_, _, rfl⟩
theorem one_cell {w : World} {b : Nat} {v : Value} (h : w.cell? ⟨b, 0, none⟩ = some v) : ∀ j u, [v][j]? = some u → w.cell? ⟨b, j, none⟩ = some u := fun j u hu => by
  cases j with
  | zero => simp at hu; subst hu; exact h
  | succ j => simp at hu
theorem two_cells {w : World} {b : Nat} {v v' : Value} (h : w.cell? ⟨b, 0, none⟩ = some v) (h' : w.cell? ⟨b, 1, none⟩ = some v') : ∀ j u, [v, v'][j]? = some u → w.cell? ⟨b, j, none⟩ = some u := fun j u hu => by
  match j, hu with
  | 0, hu => simp at hu; subst hu; exact h
  | 1, hu => simp at hu; subst hu; exact h'

/-- One is left out. -/
theorem Star.drop {w : World} : ∀ {l : List Res} {F : Nat → Prop} (i : Nat), Star w l F → ∃ F', Star w (l.eraseIdx i) F' ∧ ∀ b, F' b → F b
  | [], F, i, h => ⟨F, by simpa using h, fun _ h => h⟩
  | _ :: _, _, 0, ⟨_, F2, _, h2, _, hF⟩ => ⟨F2, h2, fun b hb => (hF b).2 (.inr hb)⟩
  | _ :: l, _, i + 1, ⟨F1, F2, h1, h2, hd, hF⟩ => by
    obtain ⟨F2', h2', hs⟩ := Star.drop (l := l) i h2
    exact ⟨fun b => F1 b ∨ F2' b, ⟨F1, F2', h1, h2', fun b hb hb2 => hd b hb (hs b hb2), fun b => Iff.rfl⟩, fun b hb => (hF b).2 (hb.imp id (hs b))⟩
/-- One is set ahead. -/
theorem Star.front {w : World} : ∀ {l : List Res} {F : Nat → Prop} (i : Nat) {r : Res}, l[i]? = some r → Star w l F → Star w (r :: l.eraseIdx i) F
  | [], _, i, _, hi, _ => by simp at hi
  | r0 :: l, F, 0, r, hi, h => by simp at hi; subst hi; exact h
  | r0 :: l, F, i + 1, r, hi, ⟨F1, F2, h1, h2, hd, hF⟩ => by
    obtain ⟨G1, G2, k1, k2, kd, kF⟩ := Star.front (l := l) i (by simpa using hi) h2
    refine ⟨G1, fun b => F1 b ∨ G2 b, k1, ⟨F1, G2, h1, k2, fun b hb hb2 => hd b hb ((kF b).2 (.inr hb2)), fun b => Iff.rfl⟩, fun b hb hb2 => ?_, fun b => ?_⟩
    · rcases hb2 with h | h
      · exact hd b h ((kF b).2 (.inl hb))
      · exact kd b hb h
    · rw [hF b, kF b]
      constructor
      · rintro (h | h | h)
        · exact .inr (.inl h)
        · exact .inl h
        · exact .inr (.inr h)
      · rintro (h | h | h)
        · exact .inr (.inl h)
        · exact .inl h
        · exact .inr (.inr h)
theorem Owns.drop {B : Nat} {w : World} {l : List Res} (h : Owns B w l) (i : Nat) : Owns B w (l.eraseIdx i) := by
  obtain ⟨F, hs, hb⟩ := h
  obtain ⟨F', hs', hsub⟩ := hs.drop i
  exact ⟨F', hs', fun b h => hb b (hsub b h)⟩
theorem Owns.front {B : Nat} {w : World} {l : List Res} (h : Owns B w l) (i : Nat) {r : Res} (hi : l[i]? = some r) : Owns B w (r :: l.eraseIdx i) := by
  obtain ⟨F, hs, hb⟩ := h
  exact ⟨F, hs.front i hi, hb⟩

/-- Values that stand side by side. -/
def ValsAt (w : World) (a : Option Addr) (xs : List Value) : Prop :=
  xs = [] ∨ ∃ b off, a = some ⟨b, off, none⟩ ∧ ∀ i (h : i < xs.length), w.cell? ⟨b, off + i, none⟩ = some xs[i]
theorem ValsAt.ext {w w' : World} {a : Option Addr} {xs : List Value} (h : ValsAt w a xs) (hx : Ext w w') : ValsAt w' a xs :=
  h.imp id fun ⟨b, off, ha, hc⟩ => ⟨b, off, ha, fun i hi => hx.some (hc i hi)⟩
theorem ValsAt.get {w : World} {b off : Nat} {xs : List Value} (h : ValsAt w (some ⟨b, off, none⟩) xs) {i : Nat} {v : Value} (hv : xs[i]? = some v) : w.cell? ⟨b, off + i, none⟩ = some v := by
  obtain ⟨hi, rfl⟩ := List.getElem?_eq_some_iff.1 hv
  rcases h with rfl | ⟨b', off', ha, hc⟩
  · simp at hi
  · simp only [Option.some.injEq, Addr.mk.injEq, and_true] at ha
    obtain ⟨rfl, rfl⟩ := ha
    exact hc i hi
theorem ValsAt.some {w : World} {a : Option Addr} {xs : List Value} (h : ValsAt w a xs) {i : Nat} {v : Value} (hv : xs[i]? = some v) : ∃ b off, a = some ⟨b, off, none⟩ := by
  obtain ⟨hi, rfl⟩ := List.getElem?_eq_some_iff.1 hv
  rcases h with rfl | ⟨b', off', ha, _⟩
  · simp at hi
  · exact ⟨b', off', ha⟩
theorem ValsAt.of {w : World} {e : TypeId} {a : Option Addr} {n cap : Nat} {xs : List Value} {F : Nat → Prop} (h : (Row e 1 (.slice a n cap) n xs).holds w F) : ValsAt w a xs := by
  rcases h.1.2 with ⟨hv, hx⟩ | ⟨g, c, cur, hv, _⟩
  · exact .inl (List.length_eq_zero_iff.1 (by rw [h.1.1, hx]))
  · cases hv
    refine .inr ⟨g, 0, rfl, fun i hi => ?_⟩
    have e : ∀ j, (⟨g, 0, none⟩ : Addr).add j = ⟨g, 0 + j, none⟩ := fun j => by unfold Addr.add; split <;> simp_all
    have h1 := h.1.cells (g := g) rfl i _ (List.getElem?_eq_getElem hi)
    rwa [e] at h1
theorem Owns.vals {B : Nat} {w : World} {l : List Res} (h : Owns B w l) (hBw : B ≤ w.heap.size) (i : Nat) {e : TypeId} {a : Option Addr} {n cap : Nat} {xs : List Value} (hi : l[i]? = some (Row e 1 (.slice a n cap) n xs)) : ValsAt w a xs := by
  obtain ⟨_, hr, _⟩ := h.at hBw i hi
  exact ValsAt.of hr
theorem Owns.box {B : Nat} {w : World} {l : List Res} (h : Owns B w l) (hBw : B ≤ w.heap.size) (i : Nat) {b : Nat} {cs : List Value} {t : TypeId} (hi : l[i]? = some (Box b cs t)) {k : Nat} {v : Value} (hk : cs[k]? = some v) : w.cell? ⟨b, k, none⟩ = some v := by
  obtain ⟨_, hr, _⟩ := h.at hBw i hi
  exact Box.cell hr hk
theorem Owns.shape {B : Nat} {w : World} {l : List Res} (h : Owns B w l) (hBw : B ≤ w.heap.size) (i : Nat) {e : TypeId} {size : Nat} {v : Value} {n : Nat} {xs : List Value} (hi : l[i]? = some (Row e size v n xs)) : ∃ a cap, v = .slice a n cap := by
  obtain ⟨_, hr, _⟩ := h.at hBw i hi
  exact Row.shape hr
/-- A call that turns one thing. -/
theorem Owns.call {W w : World} {l : List Res} (h : Owns W.heap.size w l) (hE : Ext W w) (i : Nat) {r : Res} (hi : l[i]? = some r) :
    ∃ Fr, r.holds w Fr ∧ ∀ (w' : World) (r' : Res) (Fr' : Nat → Prop), r'.holds w' Fr' → Chg Fr w w' → (∀ b, Fr' b → Fr b ∨ w.heap.size ≤ b) → Owns W.heap.size w' (l.set i r') ∧ Ext W w' := by
  obtain ⟨Fr, hr, hF, hup⟩ := h.at hE.size i hi
  exact ⟨Fr, hr, fun w' r' Fr' h1 h2 h3 => ⟨hup w' r' Fr' h1 h2 h3, hE.chg h2 hF⟩⟩
section
variable {P : Program} {f : FuncId} {args : Array Value}
theorem Owns.calls {W w0 w : World} {L : List Res} {R : Ending → World → Prop} (hO : Owns W.heap.size w0 L) (hE : Ext W w0) (hx : Ext w0 w) (i : Nat) {r r' : Res} {e0 : Ending} (hi : L[i]? = some r)
    (h : ∀ F, r.holds w F → Calls P f args w fun e w' => e = e0 ∧ ∃ F', r'.holds w' F' ∧ Chg F w w' ∧ ∀ b, F' b → F b ∨ w.heap.size ≤ b)
    (k : ∀ w', Owns W.heap.size w' (L.set i r') → Ext W w' → R e0 w') : Calls P f args w R := by
  obtain ⟨Fr, hr, hup⟩ := (hO.ext hx).call (hE.trans hx) i hi
  refine (h Fr hr).mono fun e w' ⟨he, F', h1, h2, h3⟩ => ?_
  subst he
  obtain ⟨k1, k2⟩ := hup w' _ F' h1 h2 h3
  exact k w' k1 k2
theorem Owns.looks {W w0 w : World} {L : List Res} {R : Ending → World → Prop} (hO : Owns W.heap.size w0 L) (hE : Ext W w0) (hx : Ext w0 w) (i : Nat) {r : Res} {e0 : Ending} (hi : L[i]? = some r)
    (h : ∀ F, r.holds w F → Calls P f args w fun e w' => e = e0 ∧ Ext w w')
    (k : ∀ w', Owns W.heap.size w' L → Ext W w' → Ext w w' → R e0 w') : Calls P f args w R := by
  obtain ⟨Fr, hr, _⟩ := (hO.ext hx).call (hE.trans hx) i hi
  refine (h Fr hr).mono fun e w' ⟨he, h1⟩ => ?_
  subst he
  exact k w' (hO.ext (hx.trans h1)) (hE.trans (hx.trans h1)) h1
end
section
variable {P : Program}
/-- Something is appended to one of the slices of the call's own. -/
theorem wpList_append_at {W w0 w : World} {ops : Array Oper} {rest : List Oper} {o : Oper} {a : Act} {Q : Exit → Act → World → Prop} {L : List Res} (hO : Owns W.heap.size w0 L) (hW : Ext W w0) (hx0 : Ext w0 w)
    (idx : Nat) {e : TypeId} {size : Nat} {v : Value} {n : Nat} {xs : List Value} (hidx : L[idx]? = some (Row e size v n xs)) (hgd : o.guard = none) (s x : Operand) (t : TypeId)
    (ho : o.op = .call { callee := .builtin .append, args := #[s, x], argTypes := #[t, t] })
    (i : TypeInfo) (z : Value) (bytes : Nat) (ht : P.underlying t = some (.slice e)) (hi : P.info? e = some i) (hz : i.zero = some z)
    (hsize : i.size = size) (hby : i.bytes = bytes) (hzs : z.cells.size = size) (hsz : 0 < size) (hs : a.eval s = v)
    (g m c : Nat) (news : List Value) (hx : a.eval x = .slice (some ⟨g, 0, none⟩) m c) (hl : news.length = m * size) (hnews : ∀ j u, news[j]? = some u → w.cell? ⟨g, j, none⟩ = some u) (h1 : ∀ u ∈ news, u.oneCell' = true)
    (h63 : n + m ≤ maxLen) (hbytes : (n + m) * bytes ≤ 140737488355328)
    (h : ∀ ka kc w', Owns W.heap.size w' (L.set idx (Row e size (.slice ka (n + m) kc) (n + m) (xs ++ news))) → Ext W w' → wpList P ops Q rest (a.put o.dst (.slice ka (n + m) kc)) w') : wpList P ops Q (o :: rest) a w := by
  have hO1 := hO.ext hx0
  obtain ⟨F, hr, hup⟩ := hO1.call (hW.trans hx0) idx hidx
  refine wpList_append_res hgd s x t ho e i z size bytes ht hi hz hsize hby hzs hsz v n xs F hs hr g m c news hx hl hnews h1 h63 hbytes ?_
  intro v' w' hr' hc' hf'
  obtain ⟨ka, kc, rfl⟩ := Row.shape hr'
  obtain ⟨k1, k2⟩ := hup w' _ _ hr' hc' hf'
  exact h ka kc w' k1 k2
end
end Go.Proofs.YtmjdgcgmlgbfjaaDoor
