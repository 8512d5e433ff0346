/- Texts Change0, Acts, Act2, Certify, Certify2, Cert3 of this claim, laid together. -/
import Derived.Test.YtagcmjmcjpjihaaGreatDoorGTopCountProof13
import Derived.Test.YtagcmjmcjpjihaaGreatDoorGTopCountProof4
import Derived.Test.YtagcmjmcjpjihaaGreatDoorGTopCountProof10
import Derived.OwnWalk
import Derived.Lib.Hide
import Derived.Test.YtagcmjmcjpjihaaGreatDoorGTopCountProof5
namespace Go.Proofs.YtagcmjmcjpjihaaGreatDoor
open Go.RowKit

def ChangesAt (w : World) (a : Option Addr) (l : List Ch) : Prop :=
  l = [] ∨ ∃ b off, a = some ⟨b, off, none⟩ ∧ ∀ i (h : i < l.length), w.cell? ⟨b, off + i * 3, none⟩ = some (.string l[i].key) ∧ w.cell? ⟨b, off + i * 3 + 1, none⟩ = some (.string l[i].val) ∧ w.cell? ⟨b, off + i * 3 + 2, none⟩ = some (.bool l[i].gone)
theorem ChangesAt.ext {w w' : World} {a : Option Addr} {l : List Ch} (h : ChangesAt w a l) (hx : Ext w w') : ChangesAt w' a l :=
  h.imp id fun ⟨b, off, ha, hc⟩ => ⟨b, off, ha, fun i hi => ⟨hx.some (hc i hi).1, hx.some (hc i hi).2.1, hx.some (hc i hi).2.2⟩⟩
theorem Tryz.infoStr0 : (Tryz.prog.info? 9).map (fun i => (i.zero, i.size, i.bytes)) = some (some (.string ⟨#[]⟩), 1, 16) := by kernel_rfl
theorem one_new {v : Value} (h : v.oneCell' = true) : ∀ u ∈ [v], u.oneCell' = true := fun u hu => by rw [List.mem_singleton.1 hu]; exact h
theorem two_new {v v' : Value} (h : v.oneCell' = true) (h' : v'.oneCell' = true) : ∀ u ∈ [v, v'], u.oneCell' = true := fun u hu => by
  simp only [List.mem_cons, List.mem_nil_iff, or_false] at hu
  rcases hu with rfl | rfl
  · exact h
  · exact h'
theorem take_snoc' {α : Type} (l : List α) (k : Nat) (h : k < l.length) : l.take (k + 1) = l.take k ++ [l[k]] := List.take_succ_eq_append_getElem h
/-- All of the first k are so. -/
def Upto {α : Type} (p : α → Bool) (l : List α) (k : Nat) : Prop := (l.take k).all p = true
theorem Upto.zero {α : Type} {p : α → Bool} {l : List α} : Upto p l 0 := by simp [Upto]
theorem Upto.snoc {α : Type} {p : α → Bool} {l : List α} {k : Nat} (h : Upto p l k) (hk : k < l.length) (hp : p l[k] = true) : Upto p l (k + 1) := by
  unfold Upto at *; rw [take_snoc' l k hk, List.all_append, h]; simp [hp]
theorem Upto.all {α : Type} {p : α → Bool} {l : List α} {k : Nat} (h : Upto p l k) (hk : l.length ≤ k) : l.all p = true := by
  unfold Upto at h; rwa [List.take_of_length_le hk] at h
end Go.Proofs.YtagcmjmcjpjihaaGreatDoor
namespace Go.Proofs.YtagcmjmcjpjihaaGreatDoor
open Go.RowKit

/-- An act. -/
structure Ac where
  kind : ByteArray
  a : Int
  b : Int
  c : Int
  k : Int
  s : ByteArray
  t : ByteArray
  cp : Option Addr
  cc : Nat
  ch : List Ch
  sp : Option Addr
  sc : Nat
  spn : List Sp
def Ac.cells (x : Ac) : List Value := [.string x.kind, .int .i64 x.a, .int .i64 x.b, .int .i64 x.c, .int .u64 x.k, .string x.s, .string x.t, .slice x.cp x.ch.length x.cc, .slice x.sp x.spn.length x.sc]
def Ac.wf (w : World) (x : Ac) : Prop := ((Lit.int .i64 x.a).wf = true ∧ (Lit.int .i64 x.b).wf = true ∧ (Lit.int .i64 x.c).wf = true ∧ (Lit.int .u64 x.k).wf = true) ∧ ChangesAt w x.cp x.ch ∧ SpansAt w x.sp x.spn ∧ x.ch.length ≤ maxLen ∧ x.spn.length ≤ maxLen
structure AcAt (w : World) (g off : Nat) (x : Ac) : Prop where
  kind : w.cell? ⟨g, off, none⟩ = some (.string x.kind)
  a : w.cell? ⟨g, off + 1, none⟩ = some (.int .i64 x.a)
  b : w.cell? ⟨g, off + 2, none⟩ = some (.int .i64 x.b)
  c : w.cell? ⟨g, off + 3, none⟩ = some (.int .i64 x.c)
  k : w.cell? ⟨g, off + 4, none⟩ = some (.int .u64 x.k)
  s : w.cell? ⟨g, off + 5, none⟩ = some (.string x.s)
  t : w.cell? ⟨g, off + 6, none⟩ = some (.string x.t)
  ch : w.cell? ⟨g, off + 7, none⟩ = some (.slice x.cp x.ch.length x.cc)
  sp : w.cell? ⟨g, off + 8, none⟩ = some (.slice x.sp x.spn.length x.sc)
theorem AcAt.ext {w w' : World} {b off : Nat} {x : Ac} (h : AcAt w b off x) (hx : Ext w w') : AcAt w' b off x :=
  ⟨hx.some h.1, hx.some h.2, hx.some h.3, hx.some h.4, hx.some h.5, hx.some h.6, hx.some h.7, hx.some h.8, hx.some h.9⟩
def ActsAt (w : World) (a : Option Addr) (l : List Ac) : Prop :=
  (l = [] ∨ ∃ b off, a = some ⟨b, off, none⟩ ∧ ∀ i (h : i < l.length), AcAt w b (off + i * 9) l[i]) ∧ ∀ x ∈ l, x.wf w
theorem Ac.wf.ext {w w' : World} {x : Ac} (h : x.wf w) (hx : Ext w w') : x.wf w' := ⟨h.1, h.2.1.ext hx, h.2.2.1.ext hx, h.2.2.2⟩
theorem ActsAt.ext {w w' : World} {a : Option Addr} {l : List Ac} (h : ActsAt w a l) (hx : Ext w w') : ActsAt w' a l :=
  ⟨h.1.imp id fun ⟨b, off, ha, hc⟩ => ⟨b, off, ha, fun i hi => (hc i hi).ext hx⟩, fun x hm => (h.2 x hm).ext hx⟩

end Go.Proofs.YtagcmjmcjpjihaaGreatDoor
set_option linter.unusedVariables false
set_option linter.unusedSimpArgs false
namespace Go.Proofs.YtagcmjmcjpjihaaGreatDoor
open Go.RowKit
theorem agree_up {w w' : World} (h : ∀ b, b < w.heap.size → w'.heap[b]? = w.heap[b]?) (a : Addr) (v : Value) (hc : w.cell? a = some v) : w'.cell? a = some v := by
  have hb : a.block < w.heap.size := by
    unfold World.cell? at hc
    split at hc
    · rename_i he; exact (Array.getElem?_eq_some_iff.1 he).1
    · cases hc
  rw [World.cell?_of_block (w := w) (h _ hb)]; exact hc
theorem AcAt.up {w w' : World} {b off : Nat} {x : Ac} (h : AcAt w b off x) (hx : ∀ a v, w.cell? a = some v → w'.cell? a = some v) : AcAt w' b off x :=
  ⟨hx _ _ h.1, hx _ _ h.2, hx _ _ h.3, hx _ _ h.4, hx _ _ h.5, hx _ _ h.6, hx _ _ h.7, hx _ _ h.8, hx _ _ h.9⟩
theorem ChangesAt.up {w w' : World} {a : Option Addr} {l : List Ch} (h : ChangesAt w a l) (hx : ∀ a v, w.cell? a = some v → w'.cell? a = some v) : ChangesAt w' a l :=
  h.imp id fun ⟨b, off, ha, hc⟩ => ⟨b, off, ha, fun i hi => ⟨hx _ _ (hc i hi).1, hx _ _ (hc i hi).2.1, hx _ _ (hc i hi).2.2⟩⟩
theorem SpansAt.up {w w' : World} {a : Option Addr} {l : List Sp} (h : SpansAt w a l) (hx : ∀ a v, w.cell? a = some v → w'.cell? a = some v) : SpansAt w' a l :=
  h.imp id fun ⟨b, off, ha, hc⟩ => ⟨b, off, ha, fun i hi => ⟨hx _ _ (hc i hi).1, hx _ _ (hc i hi).2⟩⟩
theorem ActsAt.up {w w' : World} {a : Option Addr} {l : List Ac} (h : ActsAt w a l) (hx : ∀ a v, w.cell? a = some v → w'.cell? a = some v) : ActsAt w' a l :=
  ⟨h.1.imp id fun ⟨b, off, ha, hc⟩ => ⟨b, off, ha, fun i hi => (hc i hi).up hx⟩, fun x hm => ⟨(h.2 x hm).1, (h.2 x hm).2.1.up hx, (h.2 x hm).2.2.1.up hx, (h.2 x hm).2.2.2⟩⟩
end Go.Proofs.YtagcmjmcjpjihaaGreatDoor
namespace Go.Proofs.YtagcmjmcjpjihaaGreatDoor
open Go.RowKit

def StrsIn (w : World) (v : Value) (l : List ByteArray) (G : Nat → Prop) : Prop :=
  ∃ a cap, v = .slice a l.length cap ∧ (l = [] ∨ ∃ b, a = some ⟨b, 0, none⟩ ∧ G b ∧ ∀ i (h : i < l.length), w.cell? ⟨b, i, none⟩ = some (.string l[i]))
theorem StrsIn.keep {w w' : World} {v : Value} {l : List ByteArray} {G : Nat → Prop} (h : StrsIn w v l G) (hk : ∀ b, G b → w'.heap[b]? = w.heap[b]?) : StrsIn w' v l G := by
  obtain ⟨a, cap, hv, h⟩ := h
  exact ⟨a, cap, hv, h.imp id fun ⟨b, ha, hg, hc⟩ => ⟨b, ha, hg, fun i hi => by rw [World.cell?_of_block (w := w) (hk b hg)]; exact hc i hi⟩⟩
theorem StrsIn.mono {w : World} {v : Value} {l : List ByteArray} {G G' : Nat → Prop} (h : StrsIn w v l G) (hs : ∀ b, G b → G' b) : StrsIn w v l G' := by
  obtain ⟨a, cap, hv, h⟩ := h
  exact ⟨a, cap, hv, h.imp id fun ⟨b, ha, hg, hc⟩ => ⟨b, ha, hs b hg, hc⟩⟩

/-- A deed as it lies in memory: its number, the slice of its keys, these. -/
structure Dd where
  n : Int
  kv : Value
  keys : List ByteArray
def Dd.cells (d : Dd) : List Value := [.int .i64 d.n, d.kv]
/-- A history at the block p. -/
def HistAt (p : Nat) (st : List (Int × List ByteArray)) (w : World) (F : Nat → Prop) (lv : Value) (ds : List Dd) (G : Nat → Prop) : Prop :=
  w.heap[p]? = some (.cells #[lv] 148 (0, 0)) ∧ w.ownsRow 0 226 2 lv ds.length (ds.flatMap Dd.cells) ∧ (∀ d ∈ ds, StrsIn w d.kv d.keys G) ∧
    st = ds.map (fun d => (d.n, d.keys)) ∧ lv.ownBlock ≠ some p ∧ ¬ G p ∧ (∀ b, lv.ownBlock = some b → ¬ G b) ∧ (∀ b, G b → b < w.heap.size) ∧ ∀ b, F b ↔ b = p ∨ lv.ownBlock = some b ∨ G b
def Hist (p : Nat) (st : List (Int × List ByteArray)) : Res where
  holds w F := ∃ lv ds G, HistAt p st w F lv ds G
  here := by
    rintro w F b ⟨lv, ds, G, h1, h2, _, _, _, _, _, h8, h9⟩ hb
    rcases (h9 b).1 hb with rfl | h | h
    · exact (Array.getElem?_eq_some_iff.1 h1).1
    · exact (h2.lt _ h).2
    · exact h8 b h
  keep := by
    rintro w w' F ⟨lv, ds, G, h1, h2, h3, h4, h5, h6, h7, h8, h9⟩ hk
    refine ⟨lv, ds, G, by rw [hk p ((h9 p).2 (.inl rfl))]; exact h1, ⟨h2.1, ?_⟩, fun d hd => (h3 d hd).keep fun b hb => hk b ((h9 b).2 (.inr (.inr hb))), h4, h5, h6, h7, fun b hb => ?_, h9⟩
    · rcases h2.2 with h | ⟨g, cap, cur, rfl, hb, hg, r⟩
      · exact .inl h
      · exact .inr ⟨g, cap, cur, rfl, hb, by rw [hk g ((h9 g).2 (.inr (.inl rfl)))]; exact hg, r⟩
    · have := hk b ((h9 b).2 (.inr (.inr hb)))
      rcases Nat.lt_or_ge b w'.heap.size with h | h
      · exact h
      · rw [Array.getElem?_eq_none h, Array.getElem?_eq_getElem (h8 b hb)] at this; cases this

theorem Tryz.infoDeed : (Tryz.prog.info? 226).map (fun i => (i.zero, i.size, i.bytes)) = some (some (.agg #[.int .i64 0, .slice none 0 0]), 2, 32) := by kernel_rfl
def keysOf (l : List Ch) : List ByteArray := l.map Ch.key
theorem keysOf_snoc (l : List Ch) (k : Nat) (h : k < l.length) : (keysOf l).take (k + 1) = (keysOf l).take k ++ [l[k].key] := by
  unfold keysOf; rw [take_snoc' _ _ (by simpa using h)]; simp
theorem StrsIn.ofRow {w : World} {a : Option Addr} {cap : Nat} {l : List ByteArray} {F : Nat → Prop} {t : TypeId} (h : (Row t 1 (.slice a l.length cap) l.length (l.map Value.string)).holds w F) : StrsIn w (.slice a l.length cap) l F := by
  refine ⟨a, cap, rfl, ?_⟩
  rcases h.1.2 with ⟨hv, hx⟩ | ⟨g, c, cur, hv, _⟩
  · exact .inl (List.length_eq_zero_iff.1 hx)
  · cases hv
    refine .inr ⟨g, rfl, (h.2 g).2 rfl, fun i hi => ?_⟩
    have := h.1.cells (g := g) rfl i (.string l[i]) (by simp [hi])
    rwa [show (⟨g, 0, none⟩ : Addr).add i = ⟨g, i, none⟩ from by unfold Addr.add; split <;> simp_all] at this

theorem Hist.note {p : Nat} {st : List (Int × List ByteArray)} {F F1 : Nat → Prop} {wr X w2 : World} {lv v' kv : Value} {ds : List Dd} {G : Nat → Prop} {n : Int} {ks : List ByteArray} {a : Option Addr} {cap : Nat} {B : Nat}
    (h : HistAt p st wr F lv ds G) (hx : Ext wr X) (hc : Chg (fun b => lv.ownBlock = some b) X w2)
    (hr : (Row 226 2 v' (ds.length + 1) (ds.flatMap Dd.cells ++ [.int .i64 n, kv])).holds w2 (fun b => v'.ownBlock = some b)) (hf : ∀ b, v'.ownBlock = some b → lv.ownBlock = some b ∨ X.heap.size ≤ b)
    (hk : (Row 9 1 kv ks.length (ks.map Value.string)).holds wr F1) (hkv : kv = .slice a ks.length cap) (hF1 : ∀ b, F1 b → B ≤ b) (hFB : ∀ b, F b → b < B) (hB : B ≤ wr.heap.size) :
    ∃ F', (Hist p (st ++ [(n, ks)])).holds (w2.setCell ⟨p, 0, none⟩ v') F' ∧ Chg F wr (w2.setCell ⟨p, 0, none⟩ v') ∧ ∀ b, F' b → F b ∨ B ≤ b := by
  obtain ⟨g1, g2, g3, g4, g5, g6, g7, g8, g9⟩ := h
  have hp : F p := (g9 p).2 (.inl rfl)
  have hpB := hFB p hp
  have hown : ∀ b, lv.ownBlock = some b → F b := fun b hb => (g9 b).2 (.inr (.inl hb))
  have hG : ∀ b, G b → F b := fun b hb => (g9 b).2 (.inr (.inr hb))
  have hXs := hx.size
  have hk1 : ∀ b, F1 b → b < wr.heap.size := fun b hb => Res.here _ hk hb
  -- a block that is neither p's nor the row's stands as it was
  have stay : ∀ b, b < wr.heap.size → b ≠ p → lv.ownBlock ≠ some b → (w2.setCell ⟨p, 0, none⟩ v').heap[b]? = wr.heap[b]? := fun b hb hne hn => by
    rw [Below.heap_setCell _ _ _ _ hne, hc.block b (by omega) hn, hx.block b hb]
  have hpn : v'.ownBlock ≠ some p := fun e => by
    rcases hf p e with h | h
    · exact g5 h
    · omega
  refine ⟨fun b => b = p ∨ v'.ownBlock = some b ∨ G b ∨ F1 b, ⟨v', ds ++ [⟨n, kv, ks⟩], fun b => G b ∨ F1 b, ?_, ?_, ?_, ?_, hpn, ?_, ?_, ?_, fun b => Iff.rfl⟩, ?_, ?_⟩
  · have : w2.heap[p]? = some (.cells #[lv] 148 (0, 0)) := by rw [hc.block p (by omega) g5, hx.block p (by omega)]; exact g1
    simp [World.setCell, Array.getElem?_modify, this]
  · have := (Row _ _ _ _ _).keep hr (w' := w2.setCell ⟨p, 0, none⟩ v') (fun b hb => Below.heap_setCell _ _ _ _ (fun e => hpn ((show b = p from e) ▸ hb)))
    simpa [List.flatMap_append, Dd.cells] using this.1
  · intro d hd
    rcases List.mem_append.1 hd with hd | hd
    · exact ((g3 d hd).keep fun b hb => stay b (g8 b hb) (fun e => g6 (e ▸ hb)) (fun e => g7 b e hb)).mono fun b hb => .inl hb
    · rw [List.mem_singleton.1 hd]
      subst hkv
      refine ((StrsIn.ofRow hk).keep fun b hb => stay b (hk1 b hb) (fun e => ?_) (fun e => ?_)).mono fun b hb => .inr hb
      · have := hF1 b hb; omega
      · have := hF1 b hb; have := hFB b (hown b e); omega
  · simp [g4]
  · rintro (h | h)
    · exact g6 h
    · have := hF1 p h; omega
  · intro b hb hgb
    rcases hf b hb with h | h <;> rcases hgb with k | k
    · exact g7 b h k
    · have := hF1 b k; have := hFB b (hown b h); omega
    · have := g8 b k; omega
    · have := hk1 b k; omega
  · intro b hb
    have : b < wr.heap.size := hb.elim (g8 b) (hk1 b)
    have := hc.size
    simp only [World.setCell]
    simp; omega
  · refine (Chg.ofExt hx).step (hc.trans' (Chg.setCell w2 ⟨p, 0, none⟩ v')) ?_
    rintro i (h | h)
    · exact .inl (hown i h)
    · exact .inl (by rw [show i = p from h]; exact hp)
  · rintro b (rfl | h | h | h)
    · exact .inl hp
    · exact (hf b h).imp (hown b) (fun h => by omega)
    · exact .inl (hG b h)
    · exact .inr (hF1 b h)

set_option maxHeartbeats 1000000 in
set_option maxRecDepth 100000 in
theorem note_any (p : Nat) (st : List (Int × List ByteArray)) (F : Nat → Prop) (n : Int) (a : Option Addr) (cap : Nat) (l : List Ch) (w : World) (hh : (Hist p st).holds w F) (hl : l.length ≤ 1000) (hst : st.length ≤ 100000)
    (hcs : ChangesAt w a l) :
    Calls Tryz.prog 73 #[.pointer (some ⟨p, 0, none⟩), .int .i64 n, .slice a l.length cap] w fun e w' => e = .returned (.tuple #[]) ∧ ∃ F', (Hist p (st ++ [(n, keysOf l)])).holds w' F' ∧ Chg F w w' ∧ ∀ b, F' b → F b ∨ w.heap.size ≤ b := by
  obtain ⟨iS, hiS, hzS, hsS, hbS⟩ := info_parts Tryz.infoStr0
  obtain ⟨iD, hiD, hzD, hsD, hbD⟩ := info_parts Tryz.infoDeed
  have HST := Lib.hid hst
  clear hst
  go_enter Tryz.func73, Tryz.ntmps73
  go_wp2
  have hO : Owns w.heap.size (w.alloc (.cells #[.int .i64 n, .slice none 0 0] 226)) [Box w.heap.size [.int .i64 n, .slice none 0 0] 226, Row 9 1 (.slice none 0 0) 0 []] :=
    Owns.new (Owns.new (Owns.nil _ w) (Ext.refl w) (Row.nil _ _) (fun _ h => h.elim) (Nat.le_refl _)) ((Ext.refl w).alloc _) (Box.new w _ _) (fun b hb => Nat.le_of_eq hb.symm) (Nat.le_refl _)
  go_loopw [13] (fun i wr => ∃ (j : Nat) (kv : Value), j ≤ l.length ∧ i = .int .i64 j ∧ Owns w.heap.size wr [Box w.heap.size [.int .i64 n, kv] 226, Row 9 1 kv j (((keysOf l).take j).map Value.string)] ∧ Ext w wr) (fun i _ => l.length - (intOf i).toNat)
  case atStart => exact ⟨0, _, by omega, rfl, hO, (by repeat (first | exact Ext.refl _ | assumption | refine Ext.of_drew ?_ | refine Ext.alloc ?_ _ | refine Ext.drew ?_ | refine Ext.trans ?_ (by assumption)))⟩
  case round =>
    obtain ⟨j, kv, hj, rfl, hO, hE⟩ := hrel
    obtain ⟨F0, hb0, hF0, _⟩ := hO.at hE.size 0 rfl
    have hc1 := Box.cell hb0 (i := 1) rfl
    have hlt1 : w.heap.size < wr.heap.size := (Box _ _ _).here hb0 ((hb0.2 _).2 rfl)
    clear hb0 hF0
    by_cases hlt : j < l.length
    · rcases hcs.ext hE with rfl | ⟨b, off, rfl, hcs'⟩
      · simp at hlt
      obtain ⟨h1, h2, h3⟩ := hcs' j hlt
      clear hcs'
      have hO2 := hO.ext (((Ext.refl wr).alloc (.cells #[.string l[j].key, .string l[j].val, .bool l[j].gone] 142)).alloc (.cells #[.string l[j].key] 9))
      obtain ⟨F1, hr1, hF1, hup1⟩ := hO2.at (by simp; omega) 1 rfl
      have HK := Lib.hid (keysOf_snoc l j hlt)
      go_wp2_with (first
        | (at_builtin; refine wpList_append_res rfl (.tmp 18) (.tmp 21) 69 rfl 9 iS _ 1 16 Tryz.underlying69 hiS hzS hsS hbS rfl (by omega) kv j _ F1 rfl hr1 (wr.heap.size + 1) 1 1 [.string l[j].key] rfl rfl (one_cell (by simp)) (one_new rfl) (by unfold maxLen; omega) (by omega) ?_; intro kv' w2 hr2 hc2 hf2; obtain ⟨ka, kc, rfl⟩ := Row.shape hr2
           have hE2 := (hE.trans (by repeat (first | exact Ext.refl _ | refine Ext.alloc ?_ _ | refine Ext.drew ?_))).chg hc2 hF1
           have hO3 := hup1 w2 _ _ hr2 hc2 hf2
           obtain ⟨F3, hb3, hF3, hup3⟩ := hO3.at hE2.size 0 rfl
           have hc3 := Box.cell hb3 (i := 1) rfl
           have hf3 := Box.free hb3 1
           have hs3 := Box.set hb3 1 (.slice ka (j + 1) kc)
           clear hc1 h1 h2 h3))
      refine ⟨⟨j + 1, .slice ka (j + 1) kc, by omega, by go_num, ?_, hE2.chg hs3.2 hF3⟩, by simp [intOf]; omega⟩
      have := hup3 _ _ _ hs3.1 hs3.2 (fun b hb => .inl hb)
      rw [HK.out, List.map_append]
      exact this
    · have hjl : j = l.length := by omega
      subst hjl
      rw [List.take_of_length_le (by simp [keysOf])] at hO
      obtain ⟨F0, hb0, hF0, _⟩ := hO.at hE.size 0 rfl
      have hc0 := Box.cell hb0 (i := 0) rfl
      obtain ⟨F1, hr1, hF1, _⟩ := hO.at hE.size 1 rfl
      obtain ⟨ka, kc, rfl⟩ := Row.shape hr1
      have hw := (Hist p st).keep hh (w' := wr) (fun b hb => hE.block b ((Hist p st).here hh hb))
      obtain ⟨lv, ds, G, g1, g2, g3, g4, g5, g6, g7, g8, g9⟩ := hw
      have hcl : wr.cell? ⟨p, 0, none⟩ = some lv := by rw [cell_of_row wr p 0 _ _ _ g1]; rfl
      clear hb0
      go_wp2_with fail
      refine wp_region_ord ((0, 0) :: (0, 1) :: (0, 2) :: (0, 3) :: (1, 4) :: (1, 5) :: (3, 6) :: (4, 7) :: (0, 8) :: (0, 9) :: (4, 10) :: []) (by kernel_rfl) (by kernel_rfl) rfl (fun _ _ d _ _ h => by cases d <;> exact h) ?_
      repeat (first
        | (apply inOrd_p _ rfl rfl rfl
           · (intro w1 K hK; repeat (first | go_skip | go_guarded | go_step)
              exact hK))
        | (apply inOrd_l _ rfl rfl rfl
           · (intro w1 hx1 K hK
              have k1 := ((Ext.drew_self wr).trans hx1).some hcl
              have k2 := ((Ext.drew_self wr).trans hx1).some hc0
              have k3 := ((Ext.drew_self wr).trans hx1).some hc1
              repeat (first | go_skip | go_guarded | go_step)
              exact hK))
        | (refine inOrd_x rfl ?_
           intro K hK
           repeat (first | go_skip | go_guarded | go_step)
           refine hK _ _ ?_ ?_
           · exact (by repeat (first | exact Ext.refl _ | assumption | refine Ext.of_drew ?_ | refine Ext.alloc ?_ _ | refine Ext.drew ?_ | refine Ext.trans ?_ (by assumption)))
           clear hK))
      have hEX : Ext wr (wr.alloc (.cells #[.int .i64 n, .slice ka l.length kc] 226)).drew := (by repeat (first | exact Ext.refl _ | assumption | refine Ext.of_drew ?_ | refine Ext.alloc ?_ _ | refine Ext.drew ?_ | refine Ext.trans ?_ (by assumption)))
      have hRow := (Row _ _ _ _ _).keep (⟨g2, fun _ => Iff.rfl⟩ : (Row 226 2 lv ds.length (ds.flatMap Dd.cells)).holds wr (fun b => lv.ownBlock = some b)) (w' := (wr.alloc (.cells #[.int .i64 n, .slice ka l.length kc] 226)).drew) (fun b hb => hEX.block b (g2.lt _ hb).2)
      refine inOrd_d rfl ?_
      intro K hK
      refine wpList_append_res rfl (.tmp 29) (.tmp 31) 146 rfl 226 iD _ 2 32 Tryz.underlying146 hiD hzD hsD hbD rfl (by omega) lv ds.length _ _ rfl hRow wr.heap.size 1 1 [.int .i64 n, .slice ka l.length kc] rfl rfl (two_cells (by simp) (by simp)) (two_new rfl rfl) (by have := HST.out; rw [g4] at this; simp at this; unfold maxLen; omega) (by have := HST.out; rw [g4] at this; simp at this; omega) ?_
      intro v' w2 hr2 hc2 hf2; obtain ⟨kb, kd, rfl⟩ := Row.shape hr2
      refine hK _ _ ?_
      clear hK
      have hp2 : w2.heap[p]? = some (.cells #[lv] 148 (0, 0)) := by
        have hpw : p < wr.heap.size := (Array.getElem?_eq_some_iff.1 g1).1
        rw [hc2.block p (Nat.lt_of_lt_of_le hpw hEX.size) g5, hEX.block p hpw]; exact g1
      have hfz : w2.frozen? ⟨p, 0, none⟩ = false := by simp [World.frozen?, hp2]
      have hcl2 : w2.cell? ⟨p, 0, none⟩ = some lv := by rw [cell_of_row w2 p 0 _ _ _ hp2]; rfl
      repeat (apply inOrd_p _ rfl rfl rfl
              · (intro w1 K hK; repeat (first | go_skip | go_guarded | go_step)
                 exact hK))
      refine inOrd_d rfl ?_
      intro K hK
      repeat (first | go_skip | go_guarded | go_step)
      refine inOrd_nil ?_
      obtain ⟨F', q1, q2, q3⟩ := Hist.note (ks := keysOf l) (B := w.heap.size) ⟨g1, g2, g3, g4, g5, g6, g7, g8, g9⟩ hEX hc2 hr2 hf2 (by simpa [keysOf] using hr1) (a := ka) (cap := kc) (by simp [keysOf]) hF1 (fun b hb => (Hist p st).here hh hb) hE.size
      have q4 := (Chg.ofExt hE (S := F)).step q2 (fun i hi => .inl hi)
      go_end0
      exact ⟨rfl, F', q1, q4, q3⟩
end Go.Proofs.YtagcmjmcjpjihaaGreatDoor
namespace Go.Proofs.YtagcmjmcjpjihaaGreatDoor
open Go.RowKit

def DeedsAt (w : World) (a : Option Addr) (ds : List Dd) : Prop :=
  ds = [] ∨ ∃ b off, a = some ⟨b, off, none⟩ ∧ ∀ i (h : i < ds.length), w.cell? ⟨b, off + i * 2, none⟩ = some (.int .i64 ds[i].n) ∧ w.cell? ⟨b, off + i * 2 + 1, none⟩ = some ds[i].kv
theorem DeedsAt.ext {w w' : World} {a : Option Addr} {l : List Dd} (h : DeedsAt w a l) (hx : Ext w w') : DeedsAt w' a l :=
  h.imp id fun ⟨b, off, ha, hc⟩ => ⟨b, off, ha, fun i hi => ⟨hx.some (hc i hi).1, hx.some (hc i hi).2⟩⟩
theorem flat_two {α β : Type} {f g : α → β} : ∀ {l : List α} {i : Nat} (h : i < l.length), (l.flatMap fun d => [f d, g d])[i * 2]? = some (f l[i]) ∧ (l.flatMap fun d => [f d, g d])[i * 2 + 1]? = some (g l[i])
  | [], i, h => by simp at h
  | d :: l, 0, h => by simp
  | d :: l, i + 1, h => by
    have := flat_two (f := f) (g := g) (l := l) (i := i) (by simpa using h)
    simp only [List.flatMap_cons, List.getElem_cons_succ]
    rw [show (i + 1) * 2 = i * 2 + 1 + 1 from by omega]
    simpa using this
theorem DeedsAt.of {w : World} {a : Option Addr} {cap : Nat} {ds : List Dd} {F : Nat → Prop} {t : TypeId} (h : (Row t 2 (.slice a ds.length cap) ds.length (ds.flatMap Dd.cells)).holds w F) : DeedsAt w a ds := by
  rcases h.1.2 with ⟨hv, hx⟩ | ⟨g, c, cur, hv, _⟩
  · exact .inl (List.length_eq_zero_iff.1 hx)
  · cases hv
    refine .inr ⟨g, 0, rfl, fun i hi => ?_⟩
    have e : ∀ j, (⟨g, 0, none⟩ : Addr).add j = ⟨g, 0 + j, none⟩ := fun j => by unfold Addr.add; split <;> simp_all
    have h1 := h.1.cells (g := g) rfl (i * 2) (.int .i64 ds[i].n) (flat_two (f := fun d : Dd => Value.int .i64 d.n) (g := Dd.kv) hi).1
    have h2 := h.1.cells (g := g) rfl (i * 2 + 1) ds[i].kv (flat_two (f := fun d : Dd => Value.int .i64 d.n) (g := Dd.kv) hi).2
    rw [e] at h1 h2
    exact ⟨h1, by rw [Nat.add_assoc]; exact h2⟩
def StrsAt (w : World) (a : Option Addr) (l : List ByteArray) : Prop :=
  l = [] ∨ ∃ b off, a = some ⟨b, off, none⟩ ∧ ∀ i (h : i < l.length), w.cell? ⟨b, off + i, none⟩ = some (.string l[i])
theorem StrsAt.ext {w w' : World} {a : Option Addr} {l : List ByteArray} (h : StrsAt w a l) (hx : Ext w w') : StrsAt w' a l :=
  h.imp id fun ⟨b, off, ha, hc⟩ => ⟨b, off, ha, fun i hi => hx.some (hc i hi)⟩
theorem StrsIn.at {w : World} {v : Value} {l : List ByteArray} {G : Nat → Prop} (h : StrsIn w v l G) : ∃ a cap, v = .slice a l.length cap ∧ StrsAt w a l := by
  obtain ⟨a, cap, hv, h⟩ := h
  exact ⟨a, cap, hv, h.imp id fun ⟨b, ha, _, hc⟩ => ⟨b, 0, ha, fun i hi => by rw [Nat.zero_add]; exact hc i hi⟩⟩

theorem take_all_snoc {α : Type} {p : α → Bool} {l : List α} {j : Nat} (h : j < l.length) (hA : (l.take j).all p = true) : (l.take (j + 1)).all p = p l[j] := by
  rw [take_snoc' l j h, List.all_append, hA]; simp
def clearOf (st : List (Int × List ByteArray)) (l : List Sp) (since : Int) : Bool := st.all fun d => d.2.all fun k => !(decide (d.1 > since) && l.any fun s => s.has k)

set_option maxHeartbeats 1000000 in
set_option maxRecDepth 100000 in
theorem clear_any (p : Nat) (st : List (Int × List ByteArray)) (F : Nat → Prop) (a : Option Addr) (cap : Nat) (l : List Sp) (n : Int) (w : World) (hh : (Hist p st).holds w F) (hst : st.length ≤ 100000) (hks : ∀ d ∈ st, d.2.length ≤ 100000)
    (hl : l.length ≤ maxLen) (hs : SpansAt w a l) :
    Calls Tryz.prog 69 #[.pointer (some ⟨p, 0, none⟩), .slice a l.length cap, .int .i64 n] w fun e w' => e = .returned (.bool (clearOf st l n)) ∧ Ext w w' := by
  obtain ⟨lv, ds, G, g1, g2, g3, g4, _⟩ := hh
  have hR := (⟨g2, fun _ => Iff.rfl⟩ : (Row 226 2 lv ds.length (ds.flatMap Dd.cells)).holds w (fun b => lv.ownBlock = some b))
  obtain ⟨ka, kc, rfl⟩ := Row.shape hR
  have hD := DeedsAt.of hR
  have hcl : w.cell? ⟨p, 0, none⟩ = some (.slice ka ds.length kc) := by rw [cell_of_row w p 0 _ _ _ g1]; rfl
  have hst : ds.length ≤ 100000 := by rw [g4] at hst; simpa using hst
  have hks : ∀ d ∈ ds, d.keys.length ≤ 100000 := fun d hd => hks (d.n, d.keys) (by rw [g4]; exact List.mem_map.2 ⟨d, hd, rfl⟩)
  have hcO : clearOf st l n = ds.all fun d => d.keys.all fun k => !(decide (d.n > n) && l.any fun s => s.has k) := by rw [g4]; unfold clearOf; rw [List.all_map]; rfl
  rw [hcO]
  clear hcO g4 hR g1 g2
  go_enter Tryz.func69, Tryz.ntmps69
  go_wp2
  go_loopw [16] (fun i wr => ∃ j : Nat, j ≤ ds.length ∧ i = .int .i64 j ∧ Ext w wr ∧ (ds.take j).all (fun d => d.keys.all fun k => !(decide (d.n > n) && l.any fun s => s.has k)) = true) (fun i _ => ds.length - (intOf i).toNat)
  case atStart => exact ⟨0, by omega, rfl, (by repeat (first | exact Ext.refl _ | assumption | refine Ext.of_drew ?_ | refine Ext.alloc ?_ _ | refine Ext.drew ?_ | refine Ext.trans ?_ (by assumption))), rfl⟩
  case round =>
    obtain ⟨j, hj, rfl, hE, hA⟩ := hrel
    by_cases hlt : j < ds.length
    · rcases hD.ext hE with rfl | ⟨b, off, rfl, hD'⟩
      · simp at hlt
      obtain ⟨h1, h2⟩ := hD' j hlt
      clear hD'
      obtain ⟨sa, sc, hkv, hS⟩ := (g3 ds[j] (List.getElem_mem hlt)).at
      rw [hkv] at h2
      have hkl := hks ds[j] (List.getElem_mem hlt)
      have hK := take_all_snoc (p := fun d : Dd => d.keys.all fun k => !(decide (d.n > n) && l.any fun s => s.has k)) hlt hA
      rename World => w0
      clear hD hkv
      go_wp2
      go_loopw [23] (fun i wi => ∃ m : Nat, m ≤ ds[j].keys.length ∧ i = .int .i64 m ∧ Ext (w0.alloc (.cells #[.int .i64 ds[j].n, .slice sa ds[j].keys.length sc] 226)) wi ∧ (ds[j].keys.take m).all (fun k => !(decide (ds[j].n > n) && l.any fun s => s.has k)) = true) (fun i _ => ds[j].keys.length - (intOf i).toNat)
      case atStart => exact ⟨0, by omega, rfl, (by repeat (first | exact Ext.refl _ | assumption | refine Ext.of_drew ?_ | refine Ext.alloc ?_ _ | refine Ext.drew ?_ | refine Ext.trans ?_ (by assumption))), rfl⟩
      case round =>
        obtain ⟨m, hm, rfl, hI, hB⟩ := hrel
        have hEi : Ext w wr := hE.trans (((Ext.refl w0).alloc _).trans hI)
        have kn : wr.cell? ⟨w0.heap.size, 0, none⟩ = some (.int .i64 ds[j].n) := hI.some (by simp)
        by_cases hml : m < ds[j].keys.length
        · rcases (hS.ext hEi) with h0 | ⟨b', off', rfl, hS'⟩
          · rw [h0] at hml; simp at hml
          have k1 := hS' m hml
          clear hS'
          have hEnd : ∀ w', Ext wr w' → (!(decide (ds[j].n > n) && l.any fun s => s.has ds[j].keys[m])) = true → (∃ m' : Nat, m' ≤ ds[j].keys.length ∧ Value.int .i64 ((m : Int) + 1) = .int .i64 m' ∧ Ext (w0.alloc (.cells #[.int .i64 ds[j].n, .slice (some ⟨b', off', none⟩) ds[j].keys.length sc] 226)) w' ∧ (ds[j].keys.take m').all (fun k => !(decide (ds[j].n > n) && l.any fun s => s.has k)) = true) ∧
              ds[j].keys.length - (intOf (.int .i64 ((m : Int) + 1))).toNat < ds[j].keys.length - (intOf (.int .i64 (m : Int))).toNat :=
            fun w' hx hb => ⟨⟨m + 1, by omega, by go_num, hI.trans hx, by rw [take_all_snoc hml hB]; exact hb⟩, by simp [intOf]; omega⟩
          by_cases hn : n < ds[j].n
          · cases hk : l.any fun s => s.has ds[j].keys[m] with
            | true =>
              go_wp2_with (go_at_call 147; refine (any_any _ _ l _ _ hl (hs.ext (hEi.trans (by repeat (first | exact Ext.refl _ | assumption | refine Ext.of_drew ?_ | refine Ext.alloc ?_ _ | refine Ext.drew ?_ | refine Ext.trans ?_ (by assumption)))))).mono ?_; rintro e w' ⟨rfl, hx⟩; dsimp only; rw [hk])
              go_ret
              refine ⟨ret_bool (Eq.symm ?_), hEi.trans (by repeat (first | exact Ext.refl _ | assumption | refine Ext.of_drew ?_ | refine Ext.alloc ?_ _ | refine Ext.drew ?_ | refine Ext.trans ?_ (by assumption)))⟩
              refine all_false_at _ _ j hlt (all_false_at _ _ m hml ?_)
              simp [hk, hn]
            | false =>
              go_wp2_with (go_at_call 147; refine (any_any _ _ l _ _ hl (hs.ext (hEi.trans (by repeat (first | exact Ext.refl _ | assumption | refine Ext.of_drew ?_ | refine Ext.alloc ?_ _ | refine Ext.drew ?_ | refine Ext.trans ?_ (by assumption)))))).mono ?_; rintro e w' ⟨rfl, hx⟩; dsimp only; rw [hk])
              exact hEnd _ (by repeat (first | exact Ext.refl _ | assumption | refine Ext.of_drew ?_ | refine Ext.alloc ?_ _ | refine Ext.drew ?_ | refine Ext.trans ?_ (by assumption))) (by simp [hk])
          · go_wp2
            exact hEnd _ (by repeat (first | exact Ext.refl _ | assumption | refine Ext.of_drew ?_ | refine Ext.alloc ?_ _ | refine Ext.drew ?_ | refine Ext.trans ?_ (by assumption))) (by simp [hn])
        · have : m = ds[j].keys.length := by omega
          subst this
          rw [List.take_length] at hB
          go_wp2
          exact ⟨⟨j + 1, by omega, by go_num, hEi.trans (by repeat (first | exact Ext.refl _ | assumption | refine Ext.of_drew ?_ | refine Ext.alloc ?_ _ | refine Ext.drew ?_ | refine Ext.trans ?_ (by assumption))), hK.trans hB⟩, by simp [intOf]; omega⟩
    · have : j = ds.length := by omega
      subst this
      rw [List.take_length] at hA
      go_wp2
      go_ret
      exact ⟨ret_bool hA.symm, (by repeat (first | exact Ext.refl _ | assumption | refine Ext.of_drew ?_ | refine Ext.alloc ?_ _ | refine Ext.drew ?_ | refine Ext.trans ?_ (by assumption)))⟩

def kept (n : Int) (l : List Dd) : List Dd := l.filter fun d => decide (d.n > n)
theorem kept_snoc (n : Int) (l : List Dd) (j : Nat) (h : j < l.length) : kept n (l.take (j + 1)) = kept n (l.take j) ++ (if l[j].n > n then [l[j]] else []) := by
  unfold kept
  rw [take_snoc' l j h, List.filter_append]
  by_cases hn : l[j].n > n <;> simp [hn]
theorem kept_len (n : Int) (l : List Dd) (j : Nat) : (kept n (l.take j)).length ≤ j := by
  unfold kept
  exact Nat.le_trans (List.length_filter_le _ _) (by simp; omega)

set_option maxHeartbeats 1000000 in
set_option maxRecDepth 100000 in
theorem forget_any (p : Nat) (st : List (Int × List ByteArray)) (F : Nat → Prop) (n : Int) (w : World) (hh : (Hist p st).holds w F) (hst : st.length ≤ 100000) :
    Calls Tryz.prog 74 #[.pointer (some ⟨p, 0, none⟩), .int .i64 n] w fun e w' => e = .returned (.tuple #[]) ∧ ∃ F', (Hist p (st.filter fun d => decide (d.1 > n))).holds w' F' ∧ Chg F w w' ∧ ∀ b, F' b → F b ∨ w.heap.size ≤ b := by
  obtain ⟨iD, hiD, hzD, hsD, hbD⟩ := info_parts Tryz.infoDeed
  have hh0 := hh
  obtain ⟨lv, ds, G, g1, g2, g3, g4, g5, g6, g7, g8, g9⟩ := hh
  have hR := (⟨g2, fun _ => Iff.rfl⟩ : (Row 226 2 lv ds.length (ds.flatMap Dd.cells)).holds w (fun b => lv.ownBlock = some b))
  obtain ⟨ka, kc, rfl⟩ := Row.shape hR
  have hD := DeedsAt.of hR
  have hcl : w.cell? ⟨p, 0, none⟩ = some (.slice ka ds.length kc) := by rw [cell_of_row w p 0 _ _ _ g1]; rfl
  have hst : ds.length ≤ 100000 := by rw [g4] at hst; simpa using hst
  have HST := Lib.hid hst
  clear hR g2
  go_enter Tryz.func74, Tryz.ntmps74
  go_wp2
  have hO : Owns w.heap.size w [Row 226 2 (.slice none 0 0) 0 []] :=
    Owns.new (Owns.nil _ w) (Ext.refl w) (Row.nil _ _) (fun _ h => h.elim) (Nat.le_refl _)
  go_loopw [4, 12] (fun lv i wr => ∃ (j : Nat) (x : Option Addr) (y : Nat), j ≤ ds.length ∧ lv = .slice x (kept n (ds.take j)).length y ∧ i = .int .i64 j ∧ Ext w wr ∧ Owns w.heap.size wr [Row 226 2 (.slice x (kept n (ds.take j)).length y) (kept n (ds.take j)).length ((kept n (ds.take j)).flatMap Dd.cells)]) (fun _ i _ => ds.length - (intOf i).toNat)
  case atStart => exact ⟨0, none, 0, by omega, rfl, rfl, (by repeat (first | exact Ext.refl _ | assumption | refine Ext.of_drew ?_ | refine Ext.alloc ?_ _ | refine Ext.drew ?_ | refine Ext.trans ?_ (by assumption))), hO⟩
  case round =>
    obtain ⟨j, x, y, hj, rfl, rfl, hE, hO⟩ := hrel
    by_cases hlt : j < ds.length
    · rcases hD.ext hE with rfl | ⟨b, off, rfl, hD'⟩
      · simp at hlt
      obtain ⟨h1, h2⟩ := hD' j hlt
      clear hD'
      have hK := Lib.hid (kept_snoc n ds j hlt)
      have hKl := kept_len n ds j
      obtain ⟨sa, sc, hkv, _⟩ := (g3 ds[j] (List.getElem_mem hlt)).at
      rw [hkv] at h2
      by_cases hn : n < ds[j].n
      · have hO2 := hO.ext (((Ext.refl wr).alloc (.cells #[.int .i64 ds[j].n, .slice sa ds[j].keys.length sc] 226)).alloc (.cells #[.int .i64 ds[j].n, .slice sa ds[j].keys.length sc] 226))
        obtain ⟨F1, hr1, hF1, hup1⟩ := hO2.at (by have := hE.size; simp; omega) 0 rfl
        go_wp2_with (first
          | (at_builtin; refine wpList_append_res rfl (.tmp 20) (.tmp 22) 146 rfl 226 iD _ 2 32 Tryz.underlying146 hiD hzD hsD hbD rfl (by omega) _ _ _ F1 rfl hr1 (wr.heap.size + 1) 1 1 [.int .i64 ds[j].n, .slice sa ds[j].keys.length sc] rfl rfl (two_cells (by simp) (by simp)) (two_new rfl rfl) (by have := HST.out; unfold maxLen; omega) (by have := HST.out; omega) ?_; intro kv' w2 hr2 hc2 hf2; obtain ⟨kb, kd, rfl⟩ := Row.shape hr2))
        have hO3 := hup1 w2 _ _ hr2 hc2 hf2
        have e1 : (kept n (ds.take (j + 1))) = kept n (ds.take j) ++ [ds[j]] := by rw [hK.out, if_pos hn]
        refine ⟨⟨j + 1, kb, kd, by omega, by rw [e1]; simp, by go_num, (hE.trans (by repeat (first | exact Ext.refl _ | refine Ext.alloc ?_ _ | refine Ext.drew ?_))).chg hc2 hF1, ?_⟩, by simp [intOf]; omega⟩
        rw [e1, List.flatMap_append, List.length_append]
        simpa [Dd.cells, hkv] using hO3
      · have e1 : (kept n (ds.take (j + 1))) = kept n (ds.take j) := by rw [hK.out, if_neg hn]; simp
        go_wp2
        refine ⟨⟨j + 1, x, y, by omega, by rw [e1], by go_num, hE.trans (by repeat (first | exact Ext.refl _ | assumption | refine Ext.of_drew ?_ | refine Ext.alloc ?_ _ | refine Ext.drew ?_ | refine Ext.trans ?_ (by assumption))), ?_⟩, by simp [intOf]; omega⟩
        rw [e1]
        exact hO.ext (by repeat (first | exact Ext.refl _ | assumption | refine Ext.of_drew ?_ | refine Ext.alloc ?_ _ | refine Ext.drew ?_ | refine Ext.trans ?_ (by assumption)))
    · have : j = ds.length := by omega
      subst this
      have hp1 : wr.heap[p]? = some (.cells #[.slice ka ds.length kc] 148 (0, 0)) := by rw [hE.block p (Array.getElem?_eq_some_iff.1 g1).1]; exact g1
      have hcl1 := hE.some hcl
      have hfz : wr.frozen? ⟨p, 0, none⟩ = false := by simp [World.frozen?, hp1]
      rw [List.take_length] at hO
      go_wp2
      go_end0
      obtain ⟨Fr, hr, hFr, _⟩ := hO.at hE.size 0 rfl
      have hFp : F p := (g9 p).2 (.inl rfl)
      have hpw : p < w.heap.size := (Hist p st).here hh0 hFp
      have hne : ∀ b, Fr b → b ≠ p := fun b hb => by have := hFr b hb; omega
      have stay : ∀ b, b < w.heap.size → b ≠ p → (wr.setCell ⟨p, 0, none⟩ (.slice x (kept n ds).length y)).heap[b]? = w.heap[b]? := fun b hb hn => by
        rw [Below.heap_setCell _ _ _ _ hn, hE.block b hb]
      refine ⟨rfl, fun b => b = p ∨ Fr b ∨ G b, ⟨.slice x (kept n ds).length y, kept n ds, G, ?_, ?_, ?_, ?_, ?_, g6, ?_, ?_, ?_⟩, ?_, ?_⟩
      · simp [World.setCell, Array.getElem?_modify, hp1]
      · exact ((Row _ _ _ _ _).keep hr (fun b hb => Below.heap_setCell _ _ _ _ (hne b hb))).1
      · intro d hd
        exact (g3 d (List.mem_filter.1 hd).1).keep fun b hb => stay b (g8 b hb) (fun e => g6 (e ▸ hb))
      · rw [g4, List.filter_map]; rfl
      · intro e; exact hne p ((hr.2 p).2 e) rfl
      · intro b hb hgb; have := hFr b ((hr.2 b).2 hb); have := g8 b hgb; omega
      · intro b hb
        have := g8 b hb
        have := hE.size
        simp only [World.setCell]; simp; omega
      · intro b; show (b = p ∨ Fr b ∨ G b) ↔ _; rw [hr.2 b]
      · exact (Chg.ofExt hE).step (Chg.setCell wr ⟨p, 0, none⟩ _) (fun i hi => .inl (by rw [show i = p from hi]; exact hFp))
      · rintro b (rfl | h | h)
        · exact .inl hFp
        · exact .inr (hFr b h)
        · exact .inl ((g9 b).2 (.inr (.inr h)))
end Go.Proofs.YtagcmjmcjpjihaaGreatDoor
namespace Go.Proofs.YtagcmjmcjpjihaaGreatDoor
open Go.RowKit
def HistR (p : Nat) (st : List (Int × List ByteArray)) : Rs := .ofRes (Hist p st)
theorem Own.toHist {S : Nat → Prop} {W w : World} {l : List Rs} {p : Nat} (h : Own S W w (Var p [.slice none 0 0] 148 :: l)) : Own S W w (HistR p [] :: l) :=
  h.map1 (r := Var p [.slice none 0 0] 148) (r' := HistR p []) fun w M Z ⟨h1, h2⟩ => ⟨fun b => b = p, ⟨.slice none 0 0, [], fun _ => False, h1, World.ownsRow_nil _ 0 _ _, by simp [Value.ownBlock]⟩, fun b hb => by rw [hb]; exact h2⟩
theorem note_does (p : Nat) (st : List (Int × List ByteArray)) (n : Int) (a : Option Addr) (cap : Nat) (l : List Ch) (hl : l.length ≤ 1000) (hst : st.length ≤ 100000) :
    Does Tryz.prog 73 #[.pointer (some ⟨p, 0, none⟩), .int .i64 n, .slice a l.length cap] [HistR p st, .imm fun w => ChangesAt w a l] (fun _ : Unit => (.tuple #[], [HistR p (st ++ [(n, keysOf l)]), .imm fun w => ChangesAt w a l])) :=
  does_ofRes fun F w hF hc => note_any p st F n a cap l w hF hl hst hc
theorem forget_does (p : Nat) (st : List (Int × List ByteArray)) (n : Int) (hst : st.length ≤ 100000) :
    Does Tryz.prog 74 #[.pointer (some ⟨p, 0, none⟩), .int .i64 n] [HistR p st] (fun _ : Unit => (.tuple #[], [HistR p (st.filter fun d => decide (d.1 > n))])) :=
  does_ofRes1 fun F w hF => forget_any p st F n w hF hst
theorem clear_reads (p : Nat) (st : List (Int × List ByteArray)) (a : Option Addr) (cap : Nat) (l : List Sp) (n : Int) (hst : st.length ≤ 100000) (hks : ∀ d ∈ st, d.2.length ≤ 100000) (hl : l.length ≤ maxLen) :
    Reads Tryz.prog 69 #[.pointer (some ⟨p, 0, none⟩), .slice a l.length cap, .int .i64 n] [HistR p st, .imm fun w => SpansAt w a l] (.bool (clearOf st l n)) :=
  reads_ofRes fun F w hF hc => clear_any p st F a cap l n w hF hst hks hl hc
def spanC (s : Sp) : List Value := [.string s.lo, .string s.hi]
theorem vals_spans {w : World} {a : Option Addr} {l : List Sp} (h : ValsAt w a (l.flatMap spanC)) : SpansAt w a l := by
  have hl : (l.flatMap spanC).length = l.length * 2 := flat_length (f := spanC) (k := 2) (fun _ => rfl) l
  rcases h with h | ⟨b, off, rfl, hc⟩
  · rw [h] at hl
    have h2 : l.length * 2 = 0 := by simpa using hl.symm
    exact .inl (List.length_eq_zero_iff.1 (by omega))
  · refine .inr ⟨b, off, rfl, fun i hi => ?_⟩
    have g : ∀ j v, (l.flatMap spanC)[j]? = some v → w.cell? ⟨b, off + j, none⟩ = some v := fun j v h => by
      obtain ⟨h1, h2⟩ := List.getElem?_eq_some_iff.1 h
      have := hc j h1
      rw [h2] at this
      exact this
    have h0 := g _ _ (flat_at (f := spanC) (k := 2) (fun _ => rfl) hi 0 (.string l[i].lo) rfl)
    have h1 := g _ _ (flat_at (f := spanC) (k := 2) (fun _ => rfl) hi 1 (.string l[i].hi) rfl)
    exact ⟨by simpa using h0, by rw [Nat.add_assoc]; exact h1⟩
end Go.Proofs.YtagcmjmcjpjihaaGreatDoor
