/- Package certify: what was read, and changed. -/
import Derived.Test.YtmjdgcgmlgbfjaaChange0
namespace Go.Proofs.Ytmjdgcgmlgbfjaa
open Go.RowKit

def StrsIn (w : World) (v : Value) (l : List ByteArray) (G : Nat → Prop) : Prop :=
  ∃ a cap, v = .slice a l.length cap ∧ (l = [] ∨ ∃ b, a = some ⟨b, 0, none⟩ ∧ G b ∧ ∀ i (h : i < l.length), w.cell? ⟨b, i, none⟩ = some (.string l[i]))
theorem StrsIn.keep {w w' : World} {v : Value} {l : List ByteArray} {G : Nat → Prop} (h : StrsIn w v l G) (hk : ∀ b, G b → w'.heap[b]? = w.heap[b]?) : StrsIn w' v l G := by
  obtain ⟨a, cap, hv, h⟩ := h
  exact ⟨a, cap, hv, h.imp id fun ⟨b, ha, hg, hc⟩ => ⟨b, ha, hg, fun i hi => by rw [World.cell?_of_block (w := w) (hk b hg)]; exact hc i hi⟩⟩
theorem StrsIn.mono {w : World} {v : Value} {l : List ByteArray} {G G' : Nat → Prop} (h : StrsIn w v l G) (hs : ∀ b, G b → G' b) : StrsIn w v l G' := by
  obtain ⟨a, cap, hv, h⟩ := h
  exact ⟨a, cap, hv, h.imp id fun ⟨b, ha, hg, hc⟩ => ⟨b, ha, hs b hg, hc⟩⟩

/-- A deed as it lies in memory: its number, the slice of its keys, these. -/
structure Dd where
  n : Int
  kv : Value
  keys : List ByteArray
def Dd.cells (d : Dd) : List Value := [.int .i64 d.n, d.kv]
/-- A history at the block p. -/
def HistAt (p : Nat) (st : List (Int × List ByteArray)) (w : World) (F : Nat → Prop) (lv : Value) (ds : List Dd) (G : Nat → Prop) : Prop :=
  w.heap[p]? = some (.cells #[lv] 39 (0, 0)) ∧ w.ownsRow 0 83 2 lv ds.length (ds.flatMap Dd.cells) ∧ (∀ d ∈ ds, StrsIn w d.kv d.keys G) ∧
    st = ds.map (fun d => (d.n, d.keys)) ∧ lv.ownBlock ≠ some p ∧ ¬ G p ∧ (∀ b, lv.ownBlock = some b → ¬ G b) ∧ (∀ b, G b → b < w.heap.size) ∧ ∀ b, F b ↔ b = p ∨ lv.ownBlock = some b ∨ G b
def Hist (p : Nat) (st : List (Int × List ByteArray)) : Res where
  holds w F := ∃ lv ds G, HistAt p st w F lv ds G
  here := by
    rintro w F b ⟨lv, ds, G, h1, h2, _, _, _, _, _, h8, h9⟩ hb
    rcases (h9 b).1 hb with rfl | h | h
    · exact (Array.getElem?_eq_some_iff.1 h1).1
    · exact (h2.lt _ h).2
    · exact h8 b h
  keep := by
    rintro w w' F ⟨lv, ds, G, h1, h2, h3, h4, h5, h6, h7, h8, h9⟩ hk
    refine ⟨lv, ds, G, by rw [hk p ((h9 p).2 (.inl rfl))]; exact h1, ⟨h2.1, ?_⟩, fun d hd => (h3 d hd).keep fun b hb => hk b ((h9 b).2 (.inr (.inr hb))), h4, h5, h6, h7, fun b hb => ?_, h9⟩
    · rcases h2.2 with h | ⟨g, cap, cur, rfl, hb, hg, r⟩
      · exact .inl h
      · exact .inr ⟨g, cap, cur, rfl, hb, by rw [hk g ((h9 g).2 (.inr (.inl rfl)))]; exact hg, r⟩
    · have := hk b ((h9 b).2 (.inr (.inr hb)))
      rcases Nat.lt_or_ge b w'.heap.size with h | h
      · exact h
      · rw [Array.getElem?_eq_none h, Array.getElem?_eq_getElem (h8 b hb)] at this; cases this

theorem Try.infoDeed : (Try.prog.info? 83).map (fun i => (i.zero, i.size, i.bytes)) = some (some (.agg #[.int .i64 0, .slice none 0 0]), 2, 32) := by kernel_rfl
def keysOf (l : List Ch) : List ByteArray := l.map Ch.key
theorem keysOf_snoc (l : List Ch) (k : Nat) (h : k < l.length) : (keysOf l).take (k + 1) = (keysOf l).take k ++ [l[k].key] := by
  unfold keysOf; rw [take_snoc' _ _ (by simpa using h)]; simp
theorem StrsIn.ofRow {w : World} {a : Option Addr} {cap : Nat} {l : List ByteArray} {F : Nat → Prop} {t : TypeId} (h : (Row t 1 (.slice a l.length cap) l.length (l.map Value.string)).holds w F) : StrsIn w (.slice a l.length cap) l F := by
  refine ⟨a, cap, rfl, ?_⟩
  rcases h.1.2 with ⟨hv, hx⟩ | ⟨g, c, cur, hv, _⟩
  · exact .inl (List.length_eq_zero_iff.1 hx)
  · cases hv
    refine .inr ⟨g, rfl, (h.2 g).2 rfl, fun i hi => ?_⟩
    have := h.1.cells (g := g) rfl i (.string l[i]) (by simp [hi])
    rwa [show (⟨g, 0, none⟩ : Addr).add i = ⟨g, i, none⟩ from by unfold Addr.add; split <;> simp_all] at this

theorem Hist.note {p : Nat} {st : List (Int × List ByteArray)} {F F1 : Nat → Prop} {wr X w2 : World} {lv v' kv : Value} {ds : List Dd} {G : Nat → Prop} {n : Int} {ks : List ByteArray} {a : Option Addr} {cap : Nat} {B : Nat}
    (h : HistAt p st wr F lv ds G) (hx : Ext wr X) (hc : Chg (fun b => lv.ownBlock = some b) X w2)
    (hr : (Row 83 2 v' (ds.length + 1) (ds.flatMap Dd.cells ++ [.int .i64 n, kv])).holds w2 (fun b => v'.ownBlock = some b)) (hf : ∀ b, v'.ownBlock = some b → lv.ownBlock = some b ∨ X.heap.size ≤ b)
    (hk : (Row 9 1 kv ks.length (ks.map Value.string)).holds wr F1) (hkv : kv = .slice a ks.length cap) (hF1 : ∀ b, F1 b → B ≤ b) (hFB : ∀ b, F b → b < B) (hB : B ≤ wr.heap.size) :
    ∃ F', (Hist p (st ++ [(n, ks)])).holds (w2.setCell ⟨p, 0, none⟩ v') F' ∧ Chg F wr (w2.setCell ⟨p, 0, none⟩ v') ∧ ∀ b, F' b → F b ∨ B ≤ b := by
  obtain ⟨g1, g2, g3, g4, g5, g6, g7, g8, g9⟩ := h
  have hp : F p := (g9 p).2 (.inl rfl)
  have hpB := hFB p hp
  have hown : ∀ b, lv.ownBlock = some b → F b := fun b hb => (g9 b).2 (.inr (.inl hb))
  have hG : ∀ b, G b → F b := fun b hb => (g9 b).2 (.inr (.inr hb))
  have hXs := hx.size
  have hk1 : ∀ b, F1 b → b < wr.heap.size := fun b hb => Res.here _ hk hb
  -- a block that is neither p's nor the row's stands as it was
  have stay : ∀ b, b < wr.heap.size → b ≠ p → lv.ownBlock ≠ some b → (w2.setCell ⟨p, 0, none⟩ v').heap[b]? = wr.heap[b]? := fun b hb hne hn => by
    rw [Below.heap_setCell _ _ _ _ hne, hc.block b (by omega) hn, hx.block b hb]
  have hpn : v'.ownBlock ≠ some p := fun e => by
    rcases hf p e with h | h
    · exact g5 h
    · omega
  refine ⟨fun b => b = p ∨ v'.ownBlock = some b ∨ G b ∨ F1 b, ⟨v', ds ++ [⟨n, kv, ks⟩], fun b => G b ∨ F1 b, ?_, ?_, ?_, ?_, hpn, ?_, ?_, ?_, fun b => Iff.rfl⟩, ?_, ?_⟩
  · have : w2.heap[p]? = some (.cells #[lv] 39 (0, 0)) := by rw [hc.block p (by omega) g5, hx.block p (by omega)]; exact g1
    simp [World.setCell, Array.getElem?_modify, this]
  · have := (Row _ _ _ _ _).keep hr (w' := w2.setCell ⟨p, 0, none⟩ v') (fun b hb => Below.heap_setCell _ _ _ _ (fun e => hpn ((show b = p from e) ▸ hb)))
    simpa [List.flatMap_append, Dd.cells] using this.1
  · intro d hd
    rcases List.mem_append.1 hd with hd | hd
    · exact ((g3 d hd).keep fun b hb => stay b (g8 b hb) (fun e => g6 (e ▸ hb)) (fun e => g7 b e hb)).mono fun b hb => .inl hb
    · rw [List.mem_singleton.1 hd]
      subst hkv
      refine ((StrsIn.ofRow hk).keep fun b hb => stay b (hk1 b hb) (fun e => ?_) (fun e => ?_)).mono fun b hb => .inr hb
      · have := hF1 b hb; omega
      · have := hF1 b hb; have := hFB b (hown b e); omega
  · simp [g4]
  · rintro (h | h)
    · exact g6 h
    · have := hF1 p h; omega
  · intro b hb hgb
    rcases hf b hb with h | h <;> rcases hgb with k | k
    · exact g7 b h k
    · have := hF1 b k; have := hFB b (hown b h); omega
    · have := g8 b k; omega
    · have := hk1 b k; omega
  · intro b hb
    have : b < wr.heap.size := hb.elim (g8 b) (hk1 b)
    have := hc.size
    simp only [World.setCell]
    simp; omega
  · refine (Chg.ofExt hx).step (hc.trans' (Chg.setCell w2 ⟨p, 0, none⟩ v')) ?_
    rintro i (h | h)
    · exact .inl (hown i h)
    · exact .inl (by rw [show i = p from h]; exact hp)
  · rintro b (rfl | h | h | h)
    · exact .inl hp
    · exact (hf b h).imp (hown b) (fun h => by omega)
    · exact .inl (hG b h)
    · exact .inr (hF1 b h)

set_option maxHeartbeats 1000000 in
set_option maxRecDepth 100000 in
theorem note_any (p : Nat) (st : List (Int × List ByteArray)) (F : Nat → Prop) (n : Int) (a : Option Addr) (cap : Nat) (l : List Ch) (w : World) (hh : (Hist p st).holds w F) (hl : l.length ≤ 1000) (hst : st.length ≤ 100000)
    (hcs : ChangesAt w a l) :
    Calls Try.prog 23 #[.pointer (some ⟨p, 0, none⟩), .int .i64 n, .slice a l.length cap] w fun e w' => e = .returned (.tuple #[]) ∧ ∃ F', (Hist p (st ++ [(n, keysOf l)])).holds w' F' ∧ Chg F w w' ∧ ∀ b, F' b → F b ∨ w.heap.size ≤ b := by
  obtain ⟨iS, hiS, hzS, hsS, hbS⟩ := info_parts Try.infoStr0
  obtain ⟨iD, hiD, hzD, hsD, hbD⟩ := info_parts Try.infoDeed
  have HST := Lib.hid hst
  clear hst
  go_enter Try.func23, Try.ntmps23
  go_wp2
  have hO : Owns w.heap.size (w.alloc (.cells #[.int .i64 n, .slice none 0 0] 83)) [Box w.heap.size [.int .i64 n, .slice none 0 0] 83, Row 9 1 (.slice none 0 0) 0 []] :=
    Owns.new (Owns.new (Owns.nil _ w) (Ext.refl w) (Row.nil _ _) (fun _ h => h.elim) (Nat.le_refl _)) ((Ext.refl w).alloc _) (Box.new w _ _) (fun b hb => Nat.le_of_eq hb.symm) (Nat.le_refl _)
  go_loopw [13] (fun i wr => ∃ (j : Nat) (kv : Value), j ≤ l.length ∧ i = .int .i64 j ∧ Owns w.heap.size wr [Box w.heap.size [.int .i64 n, kv] 83, Row 9 1 kv j (((keysOf l).take j).map Value.string)] ∧ Ext w wr) (fun i _ => l.length - (intOf i).toNat)
  case atStart => exact ⟨0, _, by omega, rfl, hO, (by repeat (first | exact Ext.refl _ | assumption | refine Ext.of_drew ?_ | refine Ext.alloc ?_ _ | refine Ext.drew ?_ | refine Ext.trans ?_ (by assumption)))⟩
  case round =>
    obtain ⟨j, kv, hj, rfl, hO, hE⟩ := hrel
    obtain ⟨F0, hb0, hF0, _⟩ := hO.at hE.size 0 rfl
    have hc1 := Box.cell hb0 (i := 1) rfl
    have hlt1 : w.heap.size < wr.heap.size := (Box _ _ _).here hb0 ((hb0.2 _).2 rfl)
    clear hb0 hF0
    by_cases hlt : j < l.length
    · rcases hcs.ext hE with rfl | ⟨b, off, rfl, hcs'⟩
      · simp at hlt
      obtain ⟨h1, h2, h3⟩ := hcs' j hlt
      clear hcs'
      have hO2 := hO.ext (((Ext.refl wr).alloc (.cells #[.string l[j].key, .string l[j].val, .bool l[j].gone] 48)).alloc (.cells #[.string l[j].key] 9))
      obtain ⟨F1, hr1, hF1, hup1⟩ := hO2.at (by simp; omega) 1 rfl
      have HK := Lib.hid (keysOf_snoc l j hlt)
      go_wp2_with (first
        | (at_builtin; refine wpList_append_res rfl (.tmp 18) (.tmp 21) 41 rfl 9 iS _ 1 16 Try.underlying41 hiS hzS hsS hbS rfl (by omega) kv j _ F1 rfl hr1 (wr.heap.size + 1) 1 1 [.string l[j].key] rfl rfl (one_cell (by simp)) (one_new rfl) (by unfold maxLen; omega) (by omega) ?_; intro kv' w2 hr2 hc2 hf2; obtain ⟨ka, kc, rfl⟩ := Row.shape hr2
           have hE2 := (hE.trans (by repeat (first | exact Ext.refl _ | refine Ext.alloc ?_ _ | refine Ext.drew ?_))).chg hc2 hF1
           have hO3 := hup1 w2 _ _ hr2 hc2 hf2
           obtain ⟨F3, hb3, hF3, hup3⟩ := hO3.at hE2.size 0 rfl
           have hc3 := Box.cell hb3 (i := 1) rfl
           have hf3 := Box.free hb3 1
           have hs3 := Box.set hb3 1 (.slice ka (j + 1) kc)
           clear hc1 h1 h2 h3))
      refine ⟨⟨j + 1, .slice ka (j + 1) kc, by omega, by go_num, ?_, hE2.chg hs3.2 hF3⟩, by simp [intOf]; omega⟩
      have := hup3 _ _ _ hs3.1 hs3.2 (fun b hb => .inl hb)
      rw [HK.out, List.map_append]
      exact this
    · have hjl : j = l.length := by omega
      subst hjl
      rw [List.take_of_length_le (by simp [keysOf])] at hO
      obtain ⟨F0, hb0, hF0, _⟩ := hO.at hE.size 0 rfl
      have hc0 := Box.cell hb0 (i := 0) rfl
      obtain ⟨F1, hr1, hF1, _⟩ := hO.at hE.size 1 rfl
      obtain ⟨ka, kc, rfl⟩ := Row.shape hr1
      have hw := (Hist p st).keep hh (w' := wr) (fun b hb => hE.block b ((Hist p st).here hh hb))
      obtain ⟨lv, ds, G, g1, g2, g3, g4, g5, g6, g7, g8, g9⟩ := hw
      have hcl : wr.cell? ⟨p, 0, none⟩ = some lv := by rw [cell_of_row wr p 0 _ _ _ g1]; rfl
      clear hb0
      go_wp2_with fail
      refine wp_region_ord ((0, 0) :: (0, 1) :: (0, 2) :: (0, 3) :: (1, 4) :: (1, 5) :: (3, 6) :: (4, 7) :: (0, 8) :: (0, 9) :: (4, 10) :: []) (by kernel_rfl) (by kernel_rfl) rfl (fun _ _ d _ _ h => by cases d <;> exact h) ?_
      repeat (first
        | (apply inOrd_p _ rfl rfl rfl
           · (intro w1 K hK; repeat (first | go_skip | go_guarded | go_step)
              exact hK))
        | (apply inOrd_l _ rfl rfl rfl
           · (intro w1 hx1 K hK
              have k1 := ((Ext.drew_self wr).trans hx1).some hcl
              have k2 := ((Ext.drew_self wr).trans hx1).some hc0
              have k3 := ((Ext.drew_self wr).trans hx1).some hc1
              repeat (first | go_skip | go_guarded | go_step)
              exact hK))
        | (refine inOrd_x rfl ?_
           intro K hK
           repeat (first | go_skip | go_guarded | go_step)
           refine hK _ _ ?_ ?_
           · exact (by repeat (first | exact Ext.refl _ | assumption | refine Ext.of_drew ?_ | refine Ext.alloc ?_ _ | refine Ext.drew ?_ | refine Ext.trans ?_ (by assumption)))
           clear hK))
      have hEX : Ext wr (wr.alloc (.cells #[.int .i64 n, .slice ka l.length kc] 83)).drew := (by repeat (first | exact Ext.refl _ | assumption | refine Ext.of_drew ?_ | refine Ext.alloc ?_ _ | refine Ext.drew ?_ | refine Ext.trans ?_ (by assumption)))
      have hRow := (Row _ _ _ _ _).keep (⟨g2, fun _ => Iff.rfl⟩ : (Row 83 2 lv ds.length (ds.flatMap Dd.cells)).holds wr (fun b => lv.ownBlock = some b)) (w' := (wr.alloc (.cells #[.int .i64 n, .slice ka l.length kc] 83)).drew) (fun b hb => hEX.block b (g2.lt _ hb).2)
      refine inOrd_d rfl ?_
      intro K hK
      refine wpList_append_res rfl (.tmp 29) (.tmp 31) 37 rfl 83 iD _ 2 32 Try.underlying37 hiD hzD hsD hbD rfl (by omega) lv ds.length _ _ rfl hRow wr.heap.size 1 1 [.int .i64 n, .slice ka l.length kc] rfl rfl (two_cells (by simp) (by simp)) (two_new rfl rfl) (by have := HST.out; rw [g4] at this; simp at this; unfold maxLen; omega) (by have := HST.out; rw [g4] at this; simp at this; omega) ?_
      intro v' w2 hr2 hc2 hf2; obtain ⟨kb, kd, rfl⟩ := Row.shape hr2
      refine hK _ _ ?_
      clear hK
      have hp2 : w2.heap[p]? = some (.cells #[lv] 39 (0, 0)) := by
        have hpw : p < wr.heap.size := (Array.getElem?_eq_some_iff.1 g1).1
        rw [hc2.block p (Nat.lt_of_lt_of_le hpw hEX.size) g5, hEX.block p hpw]; exact g1
      have hfz : w2.frozen? ⟨p, 0, none⟩ = false := by simp [World.frozen?, hp2]
      have hcl2 : w2.cell? ⟨p, 0, none⟩ = some lv := by rw [cell_of_row w2 p 0 _ _ _ hp2]; rfl
      repeat (apply inOrd_p _ rfl rfl rfl
              · (intro w1 K hK; repeat (first | go_skip | go_guarded | go_step)
                 exact hK))
      refine inOrd_d rfl ?_
      intro K hK
      repeat (first | go_skip | go_guarded | go_step)
      refine inOrd_nil ?_
      obtain ⟨F', q1, q2, q3⟩ := Hist.note (ks := keysOf l) (B := w.heap.size) ⟨g1, g2, g3, g4, g5, g6, g7, g8, g9⟩ hEX hc2 hr2 hf2 (by simpa [keysOf] using hr1) (a := ka) (cap := kc) (by simp [keysOf]) hF1 (fun b hb => (Hist p st).here hh hb) hE.size
      have q4 := (Chg.ofExt hE (S := F)).step q2 (fun i hi => .inl hi)
      go_end0
      exact ⟨rfl, F', q1, q4, q3⟩
end Go.Proofs.Ytmjdgcgmlgbfjaa
