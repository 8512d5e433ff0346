/- Operations on what a call has in hand: make, copy, append, bytes to a text. No program. -/
import Derived.Test.YtmjdgcgmlgbfjaaDoorOwn
import Derived.Test.YtmjdgcgmlgbfjaaDoorReg
import Derived.Laws.CopyOwn
import Derived.OwnWalk
import Derived.Lib.Hide
set_option linter.unusedVariables false
set_option linter.unusedSimpArgs false
set_option linter.unnecessarySimpa false
namespace Go.Proofs.YtmjdgcgmlgbfjaaDoor
open Go.RowKit

/-- What lies behind the first ones may be anything. -/
inductive Keeps : List Rs → List Rs → Prop
  | here (l : List Rs) : Keeps l l
  | skip (x : Rs) {l l' : List Rs} : Keeps l l' → Keeps (x :: l) l'
theorem Keeps.stars {w : World} : ∀ {l l' : List Rs} {M Z : Nat → Prop}, Keeps l l' → Stars w l M Z → Stars w l' M Z
  | _, _, _, _, .here _, h => h
  | _, _, _, _, .skip _ hk, ⟨_, _, _, h2, _, s2, _⟩ => (hk.stars h2).mono s2 (fun _ h => h)
theorem mem_one {α : Type} {P : α → Prop} {v : α} (h : P v) : ∀ u ∈ [v], P u := fun u hu => by rw [List.mem_singleton.1 hu]; exact h
theorem ones_nil : ∀ u ∈ ([] : List Value), u.oneCell' = true := fun u hu => by cases hu
theorem ones_cons {v : Value} {l : List Value} (h : v.oneCell' = true) (k : ∀ u ∈ l, u.oneCell' = true) : ∀ u ∈ v :: l, u.oneCell' = true := fun u hu => by
  rcases List.mem_cons.1 hu with rfl | hu
  · exact h
  · exact k u hu
theorem add_off (g off j : Nat) : (⟨g, off, none⟩ : Addr).add j = ⟨g, off + j, none⟩ := by unfold Addr.add; split <;> simp_all
/-- Some of them, in another order; what is left may be anything. -/
inductive Sub : List Rs → List Rs → Prop
  | base {l l' : List Rs} : Keeps l l' → Sub l l'
  | cons {l l1 l' : List Rs} {r : Rs} : Pick l r l1 → Sub l1 l' → Sub l (r :: l')
theorem Sub.stars {w : World} : ∀ {l l' : List Rs} {M Z : Nat → Prop}, Sub l l' → Stars w l M Z → Stars w l' M Z
  | _, _, _, _, .base hk, h => hk.stars h
  | _, _, _, _, .cons hp hs, h => by
    obtain ⟨M1, M2, h1, h2, s1, s2, d⟩ := hp.stars h
    exact ⟨M1, M2, h1, hs.stars h2, s1, s2, d⟩
section
variable {S : Nat → Prop} {W w w' : World} {l l' l0 l1 rs : List Rs} {r r' : Rs}
theorem Own.cut (h : Own S W w l) (hs : Sub l l') : Own S W w l' := by
  obtain ⟨hc, M, Z, h1, rest⟩ := h
  exact ⟨hc, M, Z, hs.stars h1, rest⟩
theorem Own.give (h : Own S W w l) (ht : Takes l rs l1) (hk : Keeps l1 l0) : Own S W w (rs ++ l0) := by
  obtain ⟨hc, M, Z, hs, rest⟩ := h.take ht
  obtain ⟨N1, N2, k1, k2, t1, t2, e⟩ := hs.append
  exact ⟨hc, M, Z, Stars.join k1 (hk.stars k2) t1 t2 e, rest⟩
/-- A slice that was written out is a row. -/
theorem Own.varRow {b n size : Nat} {cs : List Value} {e : TypeId} (hn : cs.length = n * size) (hm : n ≤ maxLen) (h : Own S W w (Var b cs e :: l)) : Own S W w (Row2 e size (some ⟨b, 0, none⟩) n n cs :: l) :=
  h.map1 (r := Var b cs e) (r' := Row2 e size (some ⟨b, 0, none⟩) n n cs) fun w M Z ⟨h1, h2⟩ => ⟨⟨hn, .inr ⟨b, n, cs.toArray, rfl, Nat.zero_le _, h1, Nat.le_refl _, hm, by simpa using hn, by rw [← hn]; simp⟩⟩, fun b' hb => by simp [Value.ownBlock] at hb; subst hb; exact h2⟩
theorem Var.at {b : Nat} {cs : List Value} {t : TypeId} (h : (Var b cs t).facts w) : ∀ j u, cs[j]? = some u → w.cell? ⟨b, 0 + j, none⟩ = some u := fun j u hj => by
  rw [Nat.zero_add]; exact Var.cells (t := t) h.1 hj
theorem vals_src {g off : Nat} {xs : List Value} (h : ValsAt w (some ⟨g, off, none⟩) xs) : ∀ j u, xs[j]? = some u → w.cell? ⟨g, off + j, none⟩ = some u := fun j u hj => h.get hj
theorem Own.factOf (h : Own S W w l) (hp : Pick l r l') : r.facts w := (h.pick hp).facts.1
theorem Own.vals {e : TypeId} {size n cap : Nat} {a : Option Addr} {xs : List Value} (h : Own S W w l) (hp : Pick l (Row2 e size a n cap xs) l') : ValsAt w a xs := (h.factOf hp).1
theorem Own.cellAt {e : TypeId} {size n cap g : Nat} {xs : List Value} {i : Nat} {v : Value} (h : Own S W w l) (hp : Pick l (Row2 e size (some ⟨g, 0, none⟩) n cap xs) l') (hi : xs[i]? = some v) : w.cell? ⟨g, i, none⟩ = some v := by
  have := vals_src (h.vals hp) i v hi
  rwa [Nat.zero_add] at this
theorem Own.rowCut {e : TypeId} {size n cap : Nat} {a : Option Addr} {xs : List Value} (m : Nat) (hm : m ≤ n) (h : Own S W w (Row2 e size a n cap xs :: l)) : Own S W w (Row2 e size a m cap (xs.take (m * size)) :: l) :=
  h.map1 (r := Row2 e size a n cap xs) (r' := Row2 e size a m cap (xs.take (m * size))) fun w M Z ⟨h1, h2⟩ => ⟨⟨by rw [List.length_take, h1.1]; exact Nat.min_eq_left (Nat.mul_le_mul_right _ hm), by
    rcases h1.2 with ⟨hv, h0⟩ | ⟨g, c, cur, hv, hb, hg, h3, h4, h5, h6⟩
    · injection hv with q1 q2 q3
      subst q1; subst q3
      have : m = 0 := by omega
      subst this
      exact .inl ⟨rfl, rfl⟩
    · injection hv with q1 q2 q3
      subst q1; subst q3
      exact .inr ⟨g, cap, cur, rfl, hb, hg, by omega, h4, h5, by rw [← h6, List.take_take, Nat.min_eq_left (Nat.mul_le_mul_right _ hm)]⟩⟩,
    fun b hb => h2 b (by cases a <;> simpa [Value.ownBlock] using hb)⟩
end
section
variable {P : Program} {S : Nat → Prop} {W w : World} {l l' l0 l1 : List Rs} {ops : Array Oper} {rest : List Oper} {a : Act} {Q : Exit → Act → World → Prop} {c : Code} {o : Oper}
theorem wpList_make_own4 (hO : Own S W w l) (hg : o.guard = none) (x y : Operand) (t : TypeId) (hop : o.op = Op.makeSlice t x y)
    (e : TypeId) (i : TypeInfo) (z : Value) (size : Nat) (h1 : P.underlying t = some (.slice e)) (h2 : P.info? e = some i) (h3 : i.zero = some z) (h4 : i.size = size)
    (kl kc : IntKind) (A C : Int) (n : Nat) (hl : a.eval x = .int kl A) (hc : a.eval y = .int kc C) (hA : A = (n : Int)) (hC : C = (n : Int)) (b2 : i.bytes * n ≤ 281474976710656) (b3 : n ≤ maxLen)
    (hK : ∀ g w', Own S W w' (Row2 e size (some ⟨g, 0, none⟩) n n (madeCells z.cells (n * size)).toList :: l) → wpList P ops Q rest (a.put o.dst (.slice (some ⟨g, 0, none⟩) n n)) w') :
    wpList P ops Q (o :: rest) a w := by
  refine wpList_make_full w hg x y t hop 0 e i z size h1 h2 h3 h4 kl kc A C n hl hc hA hC b2 b3 (Nat.zero_le _) fun w' r1 r2 => ?_
  have hx : Ext w w' := ⟨r2.os, r2.tape, r2.output, r2.size, fun k hk => r2.block k hk (fun e => by cases e)⟩
  refine hK _ w' (hO.new hx (M' := fun b => b = w.heap.size) (fun b hb => ⟨Nat.le_of_eq hb.symm, by subst hb; exact (r1.lt _ rfl).2⟩) ⟨r1, fun b hb => by simp [Value.ownBlock] at hb; exact hb.symm⟩)

/-- copy into a row of the call's own, from a place on. -/
theorem wpList_copy_own4 (hO : Own S W w l) {e : TypeId} {g n cap : Nat} {xs : List Value} (hp : Pick l (Row2 e 1 (some ⟨g, 0, none⟩) n cap xs) l0) (hgd : o.guard = none) (d s : Operand) (dT sT : TypeId)
    (ho : o.op = .call { callee := .builtin .copy, args := #[d, s], argTypes := #[dT, sT] }) (hu : P.underlying dT = some (.slice e)) (hsz : (P.info? e).map (·.size) = some 1)
    (off dLen dCap : Nat) (ad : Addr) (sLen sCap : Nat) (hd : a.eval d = .slice (some ⟨g, off, none⟩) dLen dCap) (hs : a.eval s = .slice (some ad) sLen sCap)
    (cs : List Value) (hn : cs.length = Nat.min sLen dLen) (hsrc : ∀ j v, cs[j]? = some v → w.cell? (ad.add j) = some v) (hfit : off + cs.length ≤ n) (h1 : ∀ v ∈ cs, v.oneCell' = true)
    (h : ∀ w', Own S W w' (Row2 e 1 (some ⟨g, 0, none⟩) n cap (splice xs off cs) :: l0) → wpList P ops Q rest (a.put o.dst (goInt cs.length)) w') : wpList P ops Q (o :: rest) a w := by
  obtain ⟨M, Z, ⟨h2, h3⟩, h4, _, k⟩ := (hO.pick hp).turn1
  have hg : M g := h3 g rfl
  rcases h2.2 with ⟨hv, _⟩ | ⟨g', c, cur, hv, hb, hgg, hnc, hcm, hcs, ht⟩
  · cases hv
  injection hv with q1 q2 q3
  injection q1 with q1
  injection q1 with q1
  subst q1; subst q3
  have hxs : xs.length = n := by have := h2.1; omega
  have hcur : cur.toList.take n = xs := by simpa using ht
  have hsize : cur.size = cap := by omega
  refine wpList_plain hgd fun K hK => ?_
  unfold Oper.wp execOp
  have hr := run_copy_row (P := P) w dT sT o.type e g off dLen dCap ad sLen sCap cur e cs hu hsz hgg hn hsrc (by omega) h1
  simp only [ho, resolve, invoke, builtin, Sem.run_bind, Sem.run_pure, Result.andThen_ok, List.map_toArray, List.map_cons, List.map_nil, hd, hs, hr]
  have hheap := setRow_heap w g cur (cur.toList.take off ++ cs ++ cur.toList.drop (off + cs.length)).toArray e (0, 0) hgg
  refine hK _ _ (h _ (k _ _ M ⟨rfl, rfl, rfl, by simp [World.setRow], fun k hk hM => setRow_other w g k _ (fun e => hM (by subst e; exact hg))⟩ (fun b h => .inl h) (fun b hb => by simpa [World.setRow] using (h4 b hb).1) ⟨⟨?_, .inr ⟨g, cap, _, rfl, hb, hheap, hnc, hcm, ?_, ?_⟩⟩, h3⟩))
  · have : (splice xs off cs).length = xs.length := length_splice xs off cs (by omega)
    omega
  · have : cur.toList.length = cap := by simpa using hsize
    simp; omega
  · rw [Nat.mul_one]
    have hl : cur.toList.length = cap := by simpa using hsize
    subst hcur
    unfold splice
    rw [List.append_assoc, List.take_append, List.take_append]
    have e1 : (List.take n (cur.toList.take off)) = List.take off (List.take n cur.toList) := by rw [List.take_take, List.take_take, Nat.min_comm]
    rw [e1, List.length_take, hl, Nat.min_eq_left (by omega), List.take_of_length_le (l := cs) (by omega), List.take_drop]
    congr 3
    rw [show off + cs.length + (n - off - cs.length) = n from by omega]

theorem map_ints {k : IntKind} : ∀ {xs : List Value}, (∀ v ∈ xs, ∃ i, v = .int k i) → ∃ ns : List Int, xs = ns.map (Value.int k)
  | [], _ => ⟨[], rfl⟩
  | x :: l, h => by
    obtain ⟨i, rfl⟩ := h x (List.mem_cons_self ..)
    obtain ⟨ns, rfl⟩ := map_ints fun v hv => h v (List.mem_cons_of_mem _ hv)
    exact ⟨i :: ns, rfl⟩
/-- Bytes as a text. -/
theorem wpList_bytes_own4 (hO : Own S W w l) {r : Rs} (hp : Pick l r l0) (hgd : o.guard = none) (x : Operand) (src dst e : TypeId) (ho : o.op = .convert src dst x)
    (hs : P.underlying src = some (.slice e)) (he : P.underlying e = some (.int .u8)) (hd : P.underlying dst = some .string)
    (g off n cap : Nat) (ns : List Int) (hx : a.eval x = .slice (some ⟨g, off, none⟩) n cap) (hn : ns.length = n) (hv : ∀ j u, (ns.map (Value.int .u8))[j]? = some u → w.cell? ⟨g, off + j, none⟩ = some u)
    (h : wpList P ops Q rest (a.put o.dst (.string (ns.foldl (fun r n => r.push (UInt8.ofNat n.toNat)) ByteArray.empty))) w) : wpList P ops Q (o :: rest) a w := by
  refine wpList_plain hgd fun K hK => ?_
  unfold Oper.wp execOp
  have h1 := run_loadCells_list (P := P) w ⟨g, off, none⟩ (ns.map (Value.int .u8)) (fun j v hj => by rw [add_off]; exact hv j v hj)
  rw [List.length_map, hn] at h1
  have h2 := run_bytesToString (P := P) w ⟨g, off, none⟩ n cap ns h1
  simp only [ho, Sem.run_bind, hx, run_convert_bytes_string w src dst e _ _ _ hs he hd, h2, Result.andThen_ok, Sem.run_pure]
  exact hK _ _ h
/-- A slice of the call's own is appended to another one. -/
theorem wpList_append_var (hO : Own S W w l) {e : TypeId} {size : Nat} {va : Option Addr} {n vc : Nat} {xs : List Value} (hp : Pick l (Row2 e size va n vc xs) l0) {g : Nat} {news : List Value} {t' : TypeId} (hp2 : Pick l0 (Var g news t') l1)
    (hgd : o.guard = none) (s x : Operand) (t : TypeId) (ho : o.op = .call { callee := .builtin .append, args := #[s, x], argTypes := #[t, t] })
    (i : TypeInfo) (z : Value) (bytes : Nat) (ht : P.underlying t = some (.slice e)) (hi : P.info? e = some i) (hz : i.zero = some z)
    (hsize : i.size = size) (hby : i.bytes = bytes) (hzs : z.cells.size = size) (hsz : 0 < size) (hs : a.eval s = .slice va n vc)
    (m c : Nat) (hx : a.eval x = .slice (some ⟨g, 0, none⟩) m c) (hl : news.length = m * size) (h1 : ∀ u ∈ news, u.oneCell' = true)
    (h63 : n + m ≤ maxLen) (hbytes : (n + m) * bytes ≤ 140737488355328)
    (h : ∀ ka kc w', Own S W w' (Row2 e size ka (n + m) kc (xs ++ news) :: l1) → wpList P ops Q rest (a.put o.dst (.slice ka (n + m) kc)) w') : wpList P ops Q (o :: rest) a w := by
  have hf := ((hO.pick hp).facts).2
  refine wpList_append_own2 hO hp hgd s x t ho i z bytes ht hi hz hsize hby hzs hsz hs g 0 m c news hx hl (Var.at (t := t') ((hO.pick hp).tail.factOf hp2)) h1 h63 hbytes fun ka kc w' hO' => h ka kc w' ?_
  have := hO'.pick (.there _ hp2)
  exact this.tail
end
section
variable {P : Program} {S : Nat → Prop} {W w : World} {l : List Rs} {ops : Array Oper} {I : World → Prop} {ord : List (Nat × Nat)} {a : Act} {Q : Exit → Act → World → Prop}
theorem inRun_alloc_own {cs : List Value} {t : TypeId} (hO : Own S W w l) (k : ∀ w', Own S W w' (Var w.heap.size cs t :: l) → inRun P ops I Q ord a w') : inRun P ops I Q ord a (w.alloc (.cells cs.toArray t)) := k _ (hO.alloc cs t)
theorem inRun_set_own {p : Addr} {v : Value} {L : List Rs} (hO : Own S W (w.setCell p v) L) (k : ∀ w', Own S W w' L → inRun P ops I Q ord a w') : inRun P ops I Q ord a (w.setCell p v) := k _ hO
end
/-- Rows of k cells, laid one behind the other. -/
theorem flat_at {α : Type} {f : α → List Value} {k : Nat} (hf : ∀ x, (f x).length = k) : ∀ {l : List α} {j : Nat} (h : j < l.length) (c : Nat) (v : Value), (f l[j])[c]? = some v → (l.flatMap f)[j * k + c]? = some v
  | [], j, h, _, _, _ => by simp at h
  | x :: l, 0, h, c, v, hv => by
    simp only [List.flatMap_cons, Nat.zero_mul, Nat.zero_add]
    have hv' : (f x)[c]? = some v := hv
    rw [List.getElem?_append_left (List.getElem?_eq_some_iff.1 hv').1]; exact hv'
  | x :: l, j + 1, h, c, v, hv => by
    have h1 : (f x).length = k := hf x
    have h2 : (f x).length ≤ (j + 1) * k + c := by rw [h1, Nat.succ_mul]; omega
    have h3 : (j + 1) * k + c - (f x).length = j * k + c := by rw [h1, Nat.succ_mul]; omega
    rw [List.flatMap_cons, List.getElem?_append_right h2, h3]
    exact flat_at hf (by simpa using h) c v hv
theorem flat_length {α : Type} {f : α → List Value} {k : Nat} (hf : ∀ x, (f x).length = k) (l : List α) : (l.flatMap f).length = l.length * k := by
  induction l with
  | nil => simp
  | cons x l ih => simp only [List.flatMap_cons, List.length_append, hf, ih, List.length_cons, Nat.succ_mul]; omega
theorem madeCells_zeros (v : Value) (n : Nat) : (madeCells #[v] n).toList = List.replicate n v := by
  apply List.ext_getElem
  · simp [madeCells]
  · intro i h1 h2; simp [madeCells, Nat.mod_one]
theorem madeCells_one {v : Value} (h : v.cells = #[v]) (n : Nat) : (madeCells v.cells n).toList = List.replicate n v := by rw [h, madeCells_zeros]
theorem foldl_push (n : Nat) : ∀ s : ByteArray, (List.replicate n (0 : Int)).foldl (fun r n => r.push (UInt8.ofNat n.toNat)) s = s ++ ⟨Array.replicate n 0⟩ := by
  induction n with
  | zero => intro s; apply ByteArray.ext; simp
  | succ n ih =>
    intro s
    rw [List.replicate_succ, List.foldl_cons, ih]
    apply ByteArray.ext
    apply Array.ext'
    simp [List.replicate_succ]
theorem foldl_zeros (n : Nat) : (List.replicate n (0 : Int)).foldl (fun r n => r.push (UInt8.ofNat n.toNat)) ByteArray.empty = ⟨Array.replicate n 0⟩ := by
  rw [foldl_push]; apply ByteArray.ext; simp
end Go.Proofs.YtmjdgcgmlgbfjaaDoor
