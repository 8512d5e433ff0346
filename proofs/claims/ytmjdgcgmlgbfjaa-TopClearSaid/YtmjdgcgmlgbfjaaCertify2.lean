/- Package certify: what is forgotten, what is clear. -/
import Derived.Test.YtmjdgcgmlgbfjaaCertify
namespace Go.Proofs.Ytmjdgcgmlgbfjaa
open Go.RowKit

def DeedsAt (w : World) (a : Option Addr) (ds : List Dd) : Prop :=
  ds = [] ∨ ∃ b off, a = some ⟨b, off, none⟩ ∧ ∀ i (h : i < ds.length), w.cell? ⟨b, off + i * 2, none⟩ = some (.int .i64 ds[i].n) ∧ w.cell? ⟨b, off + i * 2 + 1, none⟩ = some ds[i].kv
theorem DeedsAt.ext {w w' : World} {a : Option Addr} {l : List Dd} (h : DeedsAt w a l) (hx : Ext w w') : DeedsAt w' a l :=
  h.imp id fun ⟨b, off, ha, hc⟩ => ⟨b, off, ha, fun i hi => ⟨hx.some (hc i hi).1, hx.some (hc i hi).2⟩⟩
theorem flat_two {α β : Type} {f g : α → β} : ∀ {l : List α} {i : Nat} (h : i < l.length), (l.flatMap fun d => [f d, g d])[i * 2]? = some (f l[i]) ∧ (l.flatMap fun d => [f d, g d])[i * 2 + 1]? = some (g l[i])
  | [], i, h => by simp at h
  | d :: l, 0, h => by simp
  | d :: l, i + 1, h => by
    have := flat_two (f := f) (g := g) (l := l) (i := i) (by simpa using h)
    simp only [List.flatMap_cons, List.getElem_cons_succ]
    rw [show (i + 1) * 2 = i * 2 + 1 + 1 from by omega]
    simpa using this
theorem flat_len {α β : Type} {f g : α → β} : ∀ {l : List α}, (l.flatMap fun d => [f d, g d]).length = l.length * 2
  | [] => by simp
  | d :: l => by simp only [List.flatMap_cons, List.length_append, flat_len (l := l)]; simp; omega
theorem DeedsAt.of {w : World} {a : Option Addr} {cap : Nat} {ds : List Dd} {F : Nat → Prop} {t : TypeId} (h : (Row t 2 (.slice a ds.length cap) ds.length (ds.flatMap Dd.cells)).holds w F) : DeedsAt w a ds := by
  rcases h.1.2 with ⟨hv, hx⟩ | ⟨g, c, cur, hv, _⟩
  · exact .inl (List.length_eq_zero_iff.1 hx)
  · cases hv
    refine .inr ⟨g, 0, rfl, fun i hi => ?_⟩
    have e : ∀ j, (⟨g, 0, none⟩ : Addr).add j = ⟨g, 0 + j, none⟩ := fun j => by unfold Addr.add; split <;> simp_all
    have h1 := h.1.cells (g := g) rfl (i * 2) (.int .i64 ds[i].n) (flat_two (f := fun d : Dd => Value.int .i64 d.n) (g := Dd.kv) hi).1
    have h2 := h.1.cells (g := g) rfl (i * 2 + 1) ds[i].kv (flat_two (f := fun d : Dd => Value.int .i64 d.n) (g := Dd.kv) hi).2
    rw [e] at h1 h2
    exact ⟨h1, by rw [Nat.add_assoc]; exact h2⟩
def StrsAt (w : World) (a : Option Addr) (l : List ByteArray) : Prop :=
  l = [] ∨ ∃ b off, a = some ⟨b, off, none⟩ ∧ ∀ i (h : i < l.length), w.cell? ⟨b, off + i, none⟩ = some (.string l[i])
theorem StrsAt.ext {w w' : World} {a : Option Addr} {l : List ByteArray} (h : StrsAt w a l) (hx : Ext w w') : StrsAt w' a l :=
  h.imp id fun ⟨b, off, ha, hc⟩ => ⟨b, off, ha, fun i hi => hx.some (hc i hi)⟩
theorem StrsIn.at {w : World} {v : Value} {l : List ByteArray} {G : Nat → Prop} (h : StrsIn w v l G) : ∃ a cap, v = .slice a l.length cap ∧ StrsAt w a l := by
  obtain ⟨a, cap, hv, h⟩ := h
  exact ⟨a, cap, hv, h.imp id fun ⟨b, ha, _, hc⟩ => ⟨b, 0, ha, fun i hi => by rw [Nat.zero_add]; exact hc i hi⟩⟩

theorem take_all_snoc {α : Type} {p : α → Bool} {l : List α} {j : Nat} (h : j < l.length) (hA : (l.take j).all p = true) : (l.take (j + 1)).all p = p l[j] := by
  rw [take_snoc' l j h, List.all_append, hA]; simp
set_option maxHeartbeats 400000 in
theorem count_any (p : Nat) (st : List (Int × List ByteArray)) (F : Nat → Prop) (w : World) (hh : (Hist p st).holds w F) :
    Calls Try.prog 26 #[.pointer (some ⟨p, 0, none⟩)] w fun e w' => e = .returned (.int .i64 st.length) ∧ Ext w w' := by
  obtain ⟨lv, ds, G, g1, g2, _, g4, _⟩ := hh
  obtain ⟨ka, kc, rfl⟩ := Row.shape (⟨g2, fun _ => Iff.rfl⟩ : (Row 83 2 lv ds.length (ds.flatMap Dd.cells)).holds w (fun b => lv.ownBlock = some b))
  have hcl : w.cell? ⟨p, 0, none⟩ = some (.slice ka ds.length kc) := by rw [cell_of_row w p 0 _ _ _ g1]; rfl
  have hst : st.length = ds.length := by rw [g4]; simp
  rw [hst]
  go_enter Try.func26, Try.ntmps26
  go_wp2
  go_ret
  exact ⟨rfl, (by repeat (first | exact Ext.refl _ | assumption | refine Ext.of_drew ?_ | refine Ext.alloc ?_ _ | refine Ext.drew ?_ | refine Ext.trans ?_ (by assumption)))⟩

def clearOf (st : List (Int × List ByteArray)) (l : List Sp) (since : Int) : Bool := st.all fun d => d.2.all fun k => !(decide (d.1 > since) && l.any fun s => s.has k)

set_option maxHeartbeats 1000000 in
set_option maxRecDepth 100000 in
theorem clear_any (p : Nat) (st : List (Int × List ByteArray)) (F : Nat → Prop) (a : Option Addr) (cap : Nat) (l : List Sp) (n : Int) (w : World) (hh : (Hist p st).holds w F) (hst : st.length ≤ 100000) (hks : ∀ d ∈ st, d.2.length ≤ 100000)
    (hl : l.length ≤ maxLen) (hs : SpansAt w a l) :
    Calls Try.prog 25 #[.pointer (some ⟨p, 0, none⟩), .slice a l.length cap, .int .i64 n] w fun e w' => e = .returned (.bool (clearOf st l n)) ∧ Ext w w' := by
  obtain ⟨lv, ds, G, g1, g2, g3, g4, _⟩ := hh
  have hR := (⟨g2, fun _ => Iff.rfl⟩ : (Row 83 2 lv ds.length (ds.flatMap Dd.cells)).holds w (fun b => lv.ownBlock = some b))
  obtain ⟨ka, kc, rfl⟩ := Row.shape hR
  have hD := DeedsAt.of hR
  have hcl : w.cell? ⟨p, 0, none⟩ = some (.slice ka ds.length kc) := by rw [cell_of_row w p 0 _ _ _ g1]; rfl
  have hst : ds.length ≤ 100000 := by rw [g4] at hst; simpa using hst
  have hks : ∀ d ∈ ds, d.keys.length ≤ 100000 := fun d hd => hks (d.n, d.keys) (by rw [g4]; exact List.mem_map.2 ⟨d, hd, rfl⟩)
  have hcO : clearOf st l n = ds.all fun d => d.keys.all fun k => !(decide (d.n > n) && l.any fun s => s.has k) := by rw [g4]; unfold clearOf; rw [List.all_map]; rfl
  rw [hcO]
  clear hcO g4 hR g1 g2
  go_enter Try.func25, Try.ntmps25
  go_wp2
  go_loopw [16] (fun i wr => ∃ j : Nat, j ≤ ds.length ∧ i = .int .i64 j ∧ Ext w wr ∧ (ds.take j).all (fun d => d.keys.all fun k => !(decide (d.n > n) && l.any fun s => s.has k)) = true) (fun i _ => ds.length - (intOf i).toNat)
  case atStart => exact ⟨0, by omega, rfl, (by repeat (first | exact Ext.refl _ | assumption | refine Ext.of_drew ?_ | refine Ext.alloc ?_ _ | refine Ext.drew ?_ | refine Ext.trans ?_ (by assumption))), rfl⟩
  case round =>
    obtain ⟨j, hj, rfl, hE, hA⟩ := hrel
    by_cases hlt : j < ds.length
    · rcases hD.ext hE with rfl | ⟨b, off, rfl, hD'⟩
      · simp at hlt
      obtain ⟨h1, h2⟩ := hD' j hlt
      clear hD'
      obtain ⟨sa, sc, hkv, hS⟩ := (g3 ds[j] (List.getElem_mem hlt)).at
      rw [hkv] at h2
      have hkl := hks ds[j] (List.getElem_mem hlt)
      have hK := take_all_snoc (p := fun d : Dd => d.keys.all fun k => !(decide (d.n > n) && l.any fun s => s.has k)) hlt hA
      rename World => w0
      clear hD hkv
      go_wp2
      go_loopw [23] (fun i wi => ∃ m : Nat, m ≤ ds[j].keys.length ∧ i = .int .i64 m ∧ Ext (w0.alloc (.cells #[.int .i64 ds[j].n, .slice sa ds[j].keys.length sc] 83)) wi ∧ (ds[j].keys.take m).all (fun k => !(decide (ds[j].n > n) && l.any fun s => s.has k)) = true) (fun i _ => ds[j].keys.length - (intOf i).toNat)
      case atStart => exact ⟨0, by omega, rfl, (by repeat (first | exact Ext.refl _ | assumption | refine Ext.of_drew ?_ | refine Ext.alloc ?_ _ | refine Ext.drew ?_ | refine Ext.trans ?_ (by assumption))), rfl⟩
      case round =>
        obtain ⟨m, hm, rfl, hI, hB⟩ := hrel
        have hEi : Ext w wr := hE.trans (((Ext.refl w0).alloc _).trans hI)
        have kn : wr.cell? ⟨w0.heap.size, 0, none⟩ = some (.int .i64 ds[j].n) := hI.some (by simp)
        by_cases hml : m < ds[j].keys.length
        · rcases (hS.ext hEi) with h0 | ⟨b', off', rfl, hS'⟩
          · rw [h0] at hml; simp at hml
          have k1 := hS' m hml
          clear hS'
          have hEnd : ∀ w', Ext wr w' → (!(decide (ds[j].n > n) && l.any fun s => s.has ds[j].keys[m])) = true → (∃ m' : Nat, m' ≤ ds[j].keys.length ∧ Value.int .i64 ((m : Int) + 1) = .int .i64 m' ∧ Ext (w0.alloc (.cells #[.int .i64 ds[j].n, .slice (some ⟨b', off', none⟩) ds[j].keys.length sc] 83)) w' ∧ (ds[j].keys.take m').all (fun k => !(decide (ds[j].n > n) && l.any fun s => s.has k)) = true) ∧
              ds[j].keys.length - (intOf (.int .i64 ((m : Int) + 1))).toNat < ds[j].keys.length - (intOf (.int .i64 (m : Int))).toNat :=
            fun w' hx hb => ⟨⟨m + 1, by omega, by go_num, hI.trans hx, by rw [take_all_snoc hml hB]; exact hb⟩, by simp [intOf]; omega⟩
          by_cases hn : n < ds[j].n
          · cases hk : l.any fun s => s.has ds[j].keys[m] with
            | true =>
              go_wp2_with (go_at_call 19; refine (any_any _ _ l _ _ hl (hs.ext (hEi.trans (by repeat (first | exact Ext.refl _ | assumption | refine Ext.of_drew ?_ | refine Ext.alloc ?_ _ | refine Ext.drew ?_ | refine Ext.trans ?_ (by assumption)))))).mono ?_; rintro e w' ⟨rfl, hx⟩; dsimp only; rw [hk])
              go_ret
              refine ⟨ret_bool (Eq.symm ?_), hEi.trans (by repeat (first | exact Ext.refl _ | assumption | refine Ext.of_drew ?_ | refine Ext.alloc ?_ _ | refine Ext.drew ?_ | refine Ext.trans ?_ (by assumption)))⟩
              refine all_false_at _ _ j hlt (all_false_at _ _ m hml ?_)
              simp [hk, hn]
            | false =>
              go_wp2_with (go_at_call 19; refine (any_any _ _ l _ _ hl (hs.ext (hEi.trans (by repeat (first | exact Ext.refl _ | assumption | refine Ext.of_drew ?_ | refine Ext.alloc ?_ _ | refine Ext.drew ?_ | refine Ext.trans ?_ (by assumption)))))).mono ?_; rintro e w' ⟨rfl, hx⟩; dsimp only; rw [hk])
              exact hEnd _ (by repeat (first | exact Ext.refl _ | assumption | refine Ext.of_drew ?_ | refine Ext.alloc ?_ _ | refine Ext.drew ?_ | refine Ext.trans ?_ (by assumption))) (by simp [hk])
          · go_wp2
            exact hEnd _ (by repeat (first | exact Ext.refl _ | assumption | refine Ext.of_drew ?_ | refine Ext.alloc ?_ _ | refine Ext.drew ?_ | refine Ext.trans ?_ (by assumption))) (by simp [hn])
        · have : m = ds[j].keys.length := by omega
          subst this
          rw [List.take_length] at hB
          go_wp2
          exact ⟨⟨j + 1, by omega, by go_num, hEi.trans (by repeat (first | exact Ext.refl _ | assumption | refine Ext.of_drew ?_ | refine Ext.alloc ?_ _ | refine Ext.drew ?_ | refine Ext.trans ?_ (by assumption))), hK.trans hB⟩, by simp [intOf]; omega⟩
    · have : j = ds.length := by omega
      subst this
      rw [List.take_length] at hA
      go_wp2
      go_ret
      exact ⟨ret_bool hA.symm, (by repeat (first | exact Ext.refl _ | assumption | refine Ext.of_drew ?_ | refine Ext.alloc ?_ _ | refine Ext.drew ?_ | refine Ext.trans ?_ (by assumption)))⟩

def kept (n : Int) (l : List Dd) : List Dd := l.filter fun d => decide (d.n > n)
theorem kept_snoc (n : Int) (l : List Dd) (j : Nat) (h : j < l.length) : kept n (l.take (j + 1)) = kept n (l.take j) ++ (if l[j].n > n then [l[j]] else []) := by
  unfold kept
  rw [take_snoc' l j h, List.filter_append]
  by_cases hn : l[j].n > n <;> simp [hn]
theorem kept_len (n : Int) (l : List Dd) (j : Nat) : (kept n (l.take j)).length ≤ j := by
  unfold kept
  exact Nat.le_trans (List.length_filter_le _ _) (by simp; omega)

set_option maxHeartbeats 1000000 in
set_option maxRecDepth 100000 in
theorem forget_any (p : Nat) (st : List (Int × List ByteArray)) (F : Nat → Prop) (n : Int) (w : World) (hh : (Hist p st).holds w F) (hst : st.length ≤ 100000) :
    Calls Try.prog 24 #[.pointer (some ⟨p, 0, none⟩), .int .i64 n] w fun e w' => e = .returned (.tuple #[]) ∧ ∃ F', (Hist p (st.filter fun d => decide (d.1 > n))).holds w' F' ∧ Chg F w w' ∧ ∀ b, F' b → F b ∨ w.heap.size ≤ b := by
  obtain ⟨iD, hiD, hzD, hsD, hbD⟩ := info_parts Try.infoDeed
  have hh0 := hh
  obtain ⟨lv, ds, G, g1, g2, g3, g4, g5, g6, g7, g8, g9⟩ := hh
  have hR := (⟨g2, fun _ => Iff.rfl⟩ : (Row 83 2 lv ds.length (ds.flatMap Dd.cells)).holds w (fun b => lv.ownBlock = some b))
  obtain ⟨ka, kc, rfl⟩ := Row.shape hR
  have hD := DeedsAt.of hR
  have hcl : w.cell? ⟨p, 0, none⟩ = some (.slice ka ds.length kc) := by rw [cell_of_row w p 0 _ _ _ g1]; rfl
  have hst : ds.length ≤ 100000 := by rw [g4] at hst; simpa using hst
  have HST := Lib.hid hst
  clear hR g2
  go_enter Try.func24, Try.ntmps24
  go_wp2
  have hO : Owns w.heap.size w [Row 83 2 (.slice none 0 0) 0 []] :=
    Owns.new (Owns.nil _ w) (Ext.refl w) (Row.nil _ _) (fun _ h => h.elim) (Nat.le_refl _)
  go_loopw [4, 12] (fun lv i wr => ∃ (j : Nat) (x : Option Addr) (y : Nat), j ≤ ds.length ∧ lv = .slice x (kept n (ds.take j)).length y ∧ i = .int .i64 j ∧ Ext w wr ∧ Owns w.heap.size wr [Row 83 2 (.slice x (kept n (ds.take j)).length y) (kept n (ds.take j)).length ((kept n (ds.take j)).flatMap Dd.cells)]) (fun _ i _ => ds.length - (intOf i).toNat)
  case atStart => exact ⟨0, none, 0, by omega, rfl, rfl, (by repeat (first | exact Ext.refl _ | assumption | refine Ext.of_drew ?_ | refine Ext.alloc ?_ _ | refine Ext.drew ?_ | refine Ext.trans ?_ (by assumption))), hO⟩
  case round =>
    obtain ⟨j, x, y, hj, rfl, rfl, hE, hO⟩ := hrel
    by_cases hlt : j < ds.length
    · rcases hD.ext hE with rfl | ⟨b, off, rfl, hD'⟩
      · simp at hlt
      obtain ⟨h1, h2⟩ := hD' j hlt
      clear hD'
      have hK := Lib.hid (kept_snoc n ds j hlt)
      have hKl := kept_len n ds j
      obtain ⟨sa, sc, hkv, _⟩ := (g3 ds[j] (List.getElem_mem hlt)).at
      rw [hkv] at h2
      by_cases hn : n < ds[j].n
      · have hO2 := hO.ext (((Ext.refl wr).alloc (.cells #[.int .i64 ds[j].n, .slice sa ds[j].keys.length sc] 83)).alloc (.cells #[.int .i64 ds[j].n, .slice sa ds[j].keys.length sc] 83))
        obtain ⟨F1, hr1, hF1, hup1⟩ := hO2.at (by have := hE.size; simp; omega) 0 rfl
        go_wp2_with (first
          | (at_builtin; refine wpList_append_res rfl (.tmp 20) (.tmp 22) 37 rfl 83 iD _ 2 32 Try.underlying37 hiD hzD hsD hbD rfl (by omega) _ _ _ F1 rfl hr1 (wr.heap.size + 1) 1 1 [.int .i64 ds[j].n, .slice sa ds[j].keys.length sc] rfl rfl (two_cells (by simp) (by simp)) (two_new rfl rfl) (by have := HST.out; unfold maxLen; omega) (by have := HST.out; omega) ?_; intro kv' w2 hr2 hc2 hf2; obtain ⟨kb, kd, rfl⟩ := Row.shape hr2))
        have hO3 := hup1 w2 _ _ hr2 hc2 hf2
        have e1 : (kept n (ds.take (j + 1))) = kept n (ds.take j) ++ [ds[j]] := by rw [hK.out, if_pos hn]
        refine ⟨⟨j + 1, kb, kd, by omega, by rw [e1]; simp, by go_num, (hE.trans (by repeat (first | exact Ext.refl _ | refine Ext.alloc ?_ _ | refine Ext.drew ?_))).chg hc2 hF1, ?_⟩, by simp [intOf]; omega⟩
        rw [e1, List.flatMap_append, List.length_append]
        simpa [Dd.cells, hkv] using hO3
      · have e1 : (kept n (ds.take (j + 1))) = kept n (ds.take j) := by rw [hK.out, if_neg hn]; simp
        go_wp2
        refine ⟨⟨j + 1, x, y, by omega, by rw [e1], by go_num, hE.trans (by repeat (first | exact Ext.refl _ | assumption | refine Ext.of_drew ?_ | refine Ext.alloc ?_ _ | refine Ext.drew ?_ | refine Ext.trans ?_ (by assumption))), ?_⟩, by simp [intOf]; omega⟩
        rw [e1]
        exact hO.ext (by repeat (first | exact Ext.refl _ | assumption | refine Ext.of_drew ?_ | refine Ext.alloc ?_ _ | refine Ext.drew ?_ | refine Ext.trans ?_ (by assumption)))
    · have : j = ds.length := by omega
      subst this
      have hp1 : wr.heap[p]? = some (.cells #[.slice ka ds.length kc] 39 (0, 0)) := by rw [hE.block p (Array.getElem?_eq_some_iff.1 g1).1]; exact g1
      have hcl1 := hE.some hcl
      have hfz : wr.frozen? ⟨p, 0, none⟩ = false := by simp [World.frozen?, hp1]
      rw [List.take_length] at hO
      go_wp2
      go_end0
      obtain ⟨Fr, hr, hFr, _⟩ := hO.at hE.size 0 rfl
      have hFp : F p := (g9 p).2 (.inl rfl)
      have hpw : p < w.heap.size := (Hist p st).here hh0 hFp
      have hne : ∀ b, Fr b → b ≠ p := fun b hb => by have := hFr b hb; omega
      have stay : ∀ b, b < w.heap.size → b ≠ p → (wr.setCell ⟨p, 0, none⟩ (.slice x (kept n ds).length y)).heap[b]? = w.heap[b]? := fun b hb hn => by
        rw [Below.heap_setCell _ _ _ _ hn, hE.block b hb]
      refine ⟨rfl, fun b => b = p ∨ Fr b ∨ G b, ⟨.slice x (kept n ds).length y, kept n ds, G, ?_, ?_, ?_, ?_, ?_, g6, ?_, ?_, ?_⟩, ?_, ?_⟩
      · simp [World.setCell, Array.getElem?_modify, hp1]
      · exact ((Row _ _ _ _ _).keep hr (fun b hb => Below.heap_setCell _ _ _ _ (hne b hb))).1
      · intro d hd
        exact (g3 d (List.mem_filter.1 hd).1).keep fun b hb => stay b (g8 b hb) (fun e => g6 (e ▸ hb))
      · rw [g4, List.filter_map]; rfl
      · intro e; exact hne p ((hr.2 p).2 e) rfl
      · intro b hb hgb; have := hFr b ((hr.2 b).2 hb); have := g8 b hgb; omega
      · intro b hb
        have := g8 b hb
        have := hE.size
        simp only [World.setCell]; simp; omega
      · intro b; show (b = p ∨ Fr b ∨ G b) ↔ _; rw [hr.2 b]
      · exact (Chg.ofExt hE).step (Chg.setCell wr ⟨p, 0, none⟩ _) (fun i hi => .inl (by rw [show i = p from hi]; exact hFp))
      · rintro b (rfl | h | h)
        · exact .inl hFp
        · exact .inr (hFr b h)
        · exact .inl ((g9 b).2 (.inr (.inr h)))
end Go.Proofs.Ytmjdgcgmlgbfjaa
