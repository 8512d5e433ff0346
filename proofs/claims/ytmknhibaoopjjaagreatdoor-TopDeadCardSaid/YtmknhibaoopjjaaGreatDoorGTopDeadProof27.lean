/- Texts Ver7, Elder of this claim, laid together. -/
import Derived.Test.YtmknhibaoopjjaaGreatDoorGTopDeadProof24
import Derived.Test.YtmknhibaoopjjaaGreatDoorGTopDeadProof20
import Derived.Test.YtmknhibaoopjjaaGreatDoorGTopDeadProof17
import Derived.Test.YtmknhibaoopjjaaGreatDoorGTopDeadProof21
import Derived.Test.YtmknhibaoopjjaaGreatDoorGTopDeadProof22
import Derived.Shelf.SlSortCmp.NoneTotal
import Derived.Test.YtmknhibaoopjjaaGreatDoorGTopDeadProof16
set_option linter.unusedVariables false
set_option linter.unusedSimpArgs false
namespace Go.Proofs.YtmknhibaoopjjaaGreatDoor
open Go.RowKit Go.Sort
instance : Inhabited Rw := ⟨⟨⟨#[]⟩, ⟨#[]⟩⟩⟩
def rwCmp (x y : Rw) : Int := cmpZ x.key y.key
theorem rw_lt (x y : Rw) : ltOf rwCmp x y = slt x.key y.key := by unfold ltOf rwCmp; exact cmpZ_lt _ _
theorem rw_swo : SWO (ltOf rwCmp) where
  irrefl x := by rw [rw_lt]; exact slt_irrefl _
  trans x y z h1 h2 := by rw [rw_lt] at *; exact slt_trans h1 h2
  ntrans x y z h1 h2 := by rw [rw_lt] at *; exact not_slt_trans h1 h2
set_option maxHeartbeats 1000000 in
set_option maxRecDepth 100000 in
theorem scanCmp (x y : Rw) (W : World) : Calls Tryz.prog 138 #[.agg (rwC x).toArray, .agg (rwC y).toArray] W fun e w' => e = .returned (.int .i64 (rwCmp x y)) ∧ ∃ q os', w' = grow (W.drewN q) os' := by
  have hcon := fun W' => Tryz.strings_Compare x.key y.key W'
  change ∀ W', Calls Tryz.prog 109 _ _ _ at hcon
  have hc : Lib.compareBytes x.key.data.toList y.key.data.toList = rwCmp x y := rfl
  rw [hc] at hcon
  clear hc
  unfold rwC
  generalize rwCmp x y = r at hcon ⊢
  go_enter Tryz.func138, Tryz.ntmps138
  go_wp2_with (go_at_call 109; refine (hcon _).mono ?_; rintro e w' ⟨rfl, rfl⟩)
  go_ret
  exact ⟨rfl, 0, _, by rw [alloc_eq_grow, alloc_eq_grow, grow_grow]; rfl⟩
theorem perm_list {α : Type} [Inhabited α] {d d' : Array α} (h : PermIn 0 d.size d d') : d'.toList.Perm d.toList := by
  obtain ⟨h1, _, h3⟩ := h
  rw [Array.extract_size] at h3
  rw [← h1, Array.extract_size] at h3
  exact h3
theorem sorted_list {α : Type} [Inhabited α] {lt : α → α → Bool} {d : Array α} (h : SortedIn lt 0 d.size d) : d.toList.Pairwise fun a b => lt b a = false := by
  rw [List.pairwise_iff_getElem]
  intro i j hi hj hij
  have h1 := h i j (Nat.zero_le _) hij (by simpa using hj)
  rw [getElem!_pos d j (by simpa using hj), getElem!_pos d i (by simpa using hi)] at h1
  simpa using h1
set_option maxHeartbeats 1000000 in
set_option maxRecDepth 100000 in
theorem sortRows_does (a : Option Addr) (n cap : Nat) (l : List Rw) (hl : l.length = n) (hn : n ≤ 1000000) :
    Does Tryz.prog 107 #[.slice a n cap, .func (.func 138) #[] #[]] [Row2 80 2 a n cap (l.flatMap rwC)]
      (fun l' : List Rw => (.tuple #[], [Row2 80 2 a n cap (l'.flatMap rwC), .pure (l'.Perm l ∧ l'.Pairwise fun x y => slt y.key x.key = false)])) := by
  intro S W w L0 hO
  simp only [List.cons_append, List.nil_append] at hO
  rcases Nat.eq_zero_or_pos n with h0 | h0
  · subst h0
    have hl0 := List.length_eq_zero_iff.1 hl
    subst hl0
    have hc := AnyF.slices_SortFunc_none Tryz.sortRow a cap (.func (.func 138) #[] #[]) w
    refine Calls.mono (show Calls Tryz.prog 107 _ _ _ from hc) ?_
    rintro e w' ⟨rfl, rfl⟩
    refine ⟨[], rfl, ?_⟩
    have h8 := hO.toPure (p := ([] : List Rw).Perm [] ∧ ([] : List Rw).Pairwise fun x y => slt y.key x.key = false) ⟨.refl _, .nil⟩
    dsimp only
    (try simp only [CA])
    exact h8.cut sb_
  · obtain ⟨g, rfl, hfz, hg⟩ := hO.rowAt (.here _ _) h0
    have hv : ValsAt w (some ⟨g, 0, none⟩) (l.toArray.toList.flatMap rwC) := by
      rw [List.toList_toArray]; exact hO.facts.1.1
    have hH := holdsK_vals (enc := rwC) (k := 2) (d := l.toArray) hv hfz (fun _ => rfl) (by omega)
    have eg : ∀ args w, (callFunc 138 args).run Tryz.prog w = .ok (.enter 138 args) w := enters_of Tryz.func138 (by kernel_rfl) rfl
    have hs : l.toArray.size = n := by simp [hl]
    have hcon := AnyQ.slices_SortFunc Tryz.sortRow 2 Tryz.isAgg80 Tryz.sizeOf80 rwC (fun _ => rfl) (fun x v hv => by simp [rwC] at hv; rcases hv with rfl | rfl <;> rfl) rwCmp rw_swo 138 #[] g 0 cap l.toArray w eg (fun _ _ _ _ x y => scanCmp x y _) hH hg (by rw [hs]; omega)
    rw [hs] at hcon
    refine Calls.mono (show Calls Tryz.prog 107 _ _ _ from hcon) ?_
    rintro e w' ⟨rfl, d', m, os, hp, hso, rfl⟩
    rw [← hs] at hp hso
    have hp2 := perm_list hp
    have hd : d'.size = n := by have := hp2.length_eq; simp at this; omega
    have hso2 := sorted_list (lt := ltOf rwCmp) (d := d') (by rw [show d'.size = l.toArray.size from by omega]; exact hso)
    have h8 := hO.sorted (m := m) (os := os) (d' := d') (enc := rwC) (.here _ _) (fun _ => rfl) (by omega) hd
    have h9 := h8.toPure (p := d'.toList.Perm l ∧ d'.toList.Pairwise fun x y => slt y.key x.key = false) ⟨by simpa using hp2, hso2.imp fun {a b} h => by rw [rw_lt] at h; exact h⟩
    refine ⟨d'.toList, rfl, ?_⟩
    dsimp only
    (try simp only [CA])
    exact h9.cut sb_
/-- Entries that were seen. -/
def seenL (seen : List Nat) (L : List VE) : List (ByteArray × List Vn) := (L.filter fun x => decide (x.born ∈ seen)).map VE.kv
theorem seenL_nil (L : List VE) : seenL [] L = [] := by
  unfold seenL
  rw [List.filter_eq_nil_iff.2 fun x _ => by simp]
  rfl
theorem seenL_all {seen : List Nat} {L : List VE} (h : ∀ e ∈ L, e.born ∈ seen) : seenL seen L = L.map VE.kv := by
  unfold seenL
  rw [List.filter_eq_self.2 fun x hx => by simpa using h x hx]
theorem seenL_out {seen : List Nat} {b : Nat} : ∀ {L : List VE}, (∀ x ∈ L, x.born ≠ b) → L.filter (fun x => decide (x.born ∈ seen ++ [b])) = L.filter fun x => decide (x.born ∈ seen)
  | [], _ => rfl
  | x :: l, h => by
    have h1 := h x (List.mem_cons_self ..)
    rw [List.filter_cons, List.filter_cons, seenL_out fun y hy => h y (List.mem_cons_of_mem _ hy)]
    simp [h1]
theorem seenL_step {seen : List Nat} {e : VE} : ∀ {L : List VE}, (L.map VE.born).Nodup → e ∈ L → e.born ∉ seen → (L.filter fun x => decide (x.born ∈ seen ++ [e.born])).Perm (e :: L.filter fun x => decide (x.born ∈ seen))
  | x :: l, hn, hm, h => by
    rw [List.map_cons, List.nodup_cons] at hn
    rcases List.mem_cons.1 hm with rfl | hm
    · rw [List.filter_cons, if_pos (by simp), seenL_out (fun y hy he => hn.1 (List.mem_map.2 ⟨y, hy, he⟩)), List.filter_cons, if_neg (by simpa using h)]
    · have hne : x.born ≠ e.born := fun he => hn.1 (List.mem_map.2 ⟨e, hm, he.symm⟩)
      have ih := seenL_step hn.2 hm h
      rw [List.filter_cons, List.filter_cons]
      by_cases hx : x.born ∈ seen
      · rw [if_pos (by simp [hx]), if_pos (by simpa using hx)]
        exact (ih.cons x).trans (.swap ..)
      · rw [if_neg (by simp [hx, hne]), if_neg (by simpa using hx)]
        exact ih
def rowOf (f : ByteArray → Bool) (n : Int) (e : VE) : List Rw := if (atV e.vs n).2 && f e.key then [⟨e.key, (atV e.vs n).1⟩] else []
theorem scan_step {seen : List Nat} {e : VE} {L : List VE} {f : ByteArray → Bool} {n : Int} {O : List Rw} (hn : (L.map VE.born).Nodup) (he : e ∈ L) (hs : e.born ∉ seen) (hp : O.Perm (scanL (seenL seen L) f n)) : (O ++ rowOf f n e).Perm (scanL (seenL (seen ++ [e.born]) L) f n) := by
  have h1 : (scanL (seenL (seen ++ [e.born]) L) f n).Perm (scanL (VE.kv e :: seenL seen L) f n) := by
    unfold scanL seenL
    exact ((seenL_step hn he hs).map VE.kv).filterMap _
  refine List.Perm.trans ?_ h1.symm
  have h2 : scanL (VE.kv e :: seenL seen L) f n = rowOf f n e ++ scanL (seenL seen L) f n := by
    unfold scanL rowOf
    rw [List.filterMap_cons]
    by_cases hc : ((atV (VE.kv e).2 n).2 && f (VE.kv e).1) = true
    · rw [if_pos hc, if_pos (show ((atV e.vs n).2 && f e.key) = true from hc)]; rfl
    · rw [if_neg hc, if_neg (show ¬ ((atV e.vs n).2 && f e.key) = true from hc)]; rfl
  rw [h2]
  exact (hp.append_right _).trans List.perm_append_comm
theorem Tryz.infoRw : (Tryz.prog.info? 80).map (fun i => (i.zero, i.size, i.bytes)) = some (some (.agg #[.string ⟨#[]⟩, .string ⟨#[]⟩]), 2, 32) := by kernel_rfl
theorem flat_snoc (O : List Rw) (k v : ByteArray) : (O ++ [(⟨k, v⟩ : Rw)]).flatMap rwC = O.flatMap rwC ++ [.string k, .string v] := by rw [List.flatMap_append]; rfl
theorem rows_at {w : World} {L : List VE} {e : VE} (h : (Rows L).facts w) (he : e ∈ L) : ValsAt w e.addr (e.vs.flatMap verC) := (facts_mem (show Facts w (L.map VE.row) from h) (List.mem_map.2 ⟨e, he, rfl⟩) : e.row.facts w).1
set_option maxHeartbeats 4000000 in
set_option maxRecDepth 100000 in
theorem vscan_does (p nn : Nat) (V : List (ByteArray × List Vn)) (lo hi : ByteArray) (n : Int) (hlen : V.length ≤ 100000) (hV : ∀ e ∈ V, e.2.length ≤ 100000) :
    Does Tryz.prog 68 #[.pointer (some ⟨p, 0, none⟩), .agg #[.string lo, .string hi], .int .i64 n] [VerR p nn V]
      (fun x : Option Addr × Nat => (.slice x.1 (scanV V (hasB lo hi) n).length x.2, [VerR p nn V, Row2 80 2 x.1 (scanV V (hasB lo hi) n).length x.2 ((scanV V (hasB lo hi) n).flatMap rwC)])) := by
  obtain ⟨iR, hiR, hzR, hsR, hbR⟩ := info_parts Tryz.infoRw
  intro S W w L0 hO; simp only [CA] at hO
  obtain ⟨⟨b, clock, L⟩, hO⟩ := hO.ofEx; replace hO := hO.unpack; dsimp only at hO; simp only [CA] at hO; ((try clear hf); have hf := fa_ hO)
  have hVk : L.map VE.kv = V ∧ VesOk L clock := hO.factOf (r := .pure (L.map VE.kv = V ∧ VesOk L clock)) pk_
  obtain ⟨hVe, hok⟩ := hVk
  subst hVe
  have hold : ∀ x ∈ L.map VE.en, x.born < clock := fun x hx => by obtain ⟨e, he, rfl⟩ := List.mem_map.1 hx; exact hok.lt e he
  have hborn : ((L.map VE.en).map En.born).Nodup := by rw [List.map_map]; exact hok.borns
  have hnk : ((L.map VE.kv).map (·.1)).Nodup := by rw [List.map_map]; exact hok.keys
  rw [List.length_map] at hlen
  go_enter Tryz.func68, Tryz.ntmps68
  go_wp2_with (first | (at_range; (refine wpList_rangeE hO pk_ rfl _ rfl Tryz.underlying120 rfl ?_; clear hO; intro r9 w9 hO; ((try clear hf); have hf := fa_ hO))) | ((refine sy_ hO ?_); clear hO; intro w9 hO; (try dsimp only [List.set] at hO); ((try clear hf); have hf := fa_ hO)))
  obtain ⟨g, hg9⟩ := (hO.pick (r := Var _ [.string lo, .string hi] 49) pk_).named
  rw [← hg9]; rw [← hg9] at hO; clear hg9
  have hO9 := hO.nil 80 2
  clear hO hf
  go_loopw [7] (fun v wr => ∃ (seen : List Nat) (oa : Option Addr) (oc : Nat) (O : List Rw), v = .slice oa O.length oc ∧ Hid (O.Perm (scanL (seenL seen L) (hasB lo hi) n)) ∧ Own S W wr ([ItR r9 b clock seen clock, Row2 80 2 oa O.length oc (O.flatMap rwC), Var g [.string lo, .string hi] 49, Var p [.map (some b), .int .i64 nn] 122, MapR b (L.map VE.en) clock, Rows L] ++ L0)) (fun v wr => leftS (seenOf r9 wr) L)
  case atStart => exact ⟨[], none, 0, [], rfl, Lib.hid (by rw [seenL_nil]; exact .refl _), (by simp only [List.length_nil, List.flatMap_nil, List.cons_append, List.nil_append]; exact hO9.cut sb_)⟩
  case round =>
    clear hO9
    obtain ⟨seen, oa, oc, O, rfl, HP, hO⟩ := hrel
    rename World => w1
    simp only [List.cons_append, List.nil_append] at hO
    have hseen := seenOf_at hO (.here _ _)
    rw [hseen]
    ((try clear hf); have hf := fa_ hO)
    have hOn : O.length ≤ 1000000 := by have h := HP.out.length_eq; have h3 : (seenL seen L).length ≤ L.length := (by unfold seenL; rw [List.length_map]; exact List.length_filter_le _ _); have h2 := List.length_filterMap_le (fun e : ByteArray × List Vn => if (atV e.2 n).2 && hasB lo hi e.1 then some (⟨e.1, (atV e.2 n).1⟩ : Rw) else none) (seenL seen L); unfold scanL at h; omega
    by_cases hall : ∀ x ∈ L.map VE.en, x.born ∈ seen
    · have e1 := seenL_all fun e he => hall _ (List.mem_map.2 ⟨e, he, rfl⟩)
      rw [e1] at HP
      have HS := sortRows_does oa O.length oc O rfl hOn
      go_wp2_with (first | (at_next; (refine wpList_nextE hO pk_ pk_ rfl _ rfl rfl hold (Nat.le_refl _) (fun _ => ?_) (fun x8 _ hx8 hn8 _ => absurd (hall x8 hx8) hn8))) | (go_at_call 107; (with_reducible refine Does.use hO (HS) tk_ ?_; clear hO; intro x9 w9 hO; dsimp only at hO ⊢; simp only [CA] at hO; ((try clear hf); have hf := fa_ hO))) | ((refine sy_ hO ?_); clear hO; intro w9 hO; (try dsimp only [List.set] at hO); ((try clear hf); have hf := fa_ hO)))
      rename List Rw => O'
      obtain ⟨hp1, hp2⟩ := hO.factOf (r := .pure (O'.Perm O ∧ O'.Pairwise fun x y => slt y.key x.key = false)) pk_
      have e2 := scan_is hnk (hp1.trans HP.out) hp2
      have e3 : O.length = (scanV (L.map VE.kv) (hasB lo hi) n).length := by rw [← e2]; exact hp1.length_eq.symm
      rw [e2, e3] at hO
      rw [e3]
      have hO := hO.toPure (p := True ∧ VesOk L clock) ⟨trivial, hok⟩
      go_ret
      refine ⟨(oa, oc), rfl, ?_⟩
      (try simp only [CA])
      refine Own.toEx (b, clock, L) (Own.pack ?_)
      dsimp only
      (try simp only [CA])
      exact hO.cut sb_
    · go_upto_region 5 with (first | (at_next; (refine wpList_nextE hO pk_ pk_ rfl _ rfl rfl hold (Nat.le_refl _) (fun h8 => absurd h8 hall) ?_; clear hO; intro x9 w9 hx9 hn9 hO; obtain ⟨e9, he9, rfl⟩ := List.mem_map.1 hx9; clear hx9; ((try clear hf); have hf := fa_ hO))) | (with_reducible show wpList _ _ _ (Oper.mk _ (.entry _) _ _ _ _ :: _) _ _; (refine wpList_entryE (x := VE.en e9) hO pk_ pk_ rfl _ rfl rfl (List.mem_map.2 ⟨e9, he9, rfl⟩) hborn ?_; dsimp only [VE.en])) | ((refine sy_ hO ?_); clear hO; intro w9 hO; (try dsimp only [List.set] at hO); ((try clear hf); have hf := fa_ hO)))
      have hv9 : e9.vs.length ≤ 1000000 := Nat.le_trans (hV (VE.kv e9) (List.mem_map.2 ⟨e9, he9, rfl⟩)) (by omega)
      have HAT := fun w h => at_any e9.addr e9.cap e9.vs n hv9 w h
      have HH := fun w => hasB_any lo hi e9.key w
      have HST := Lib.hid (scan_step (f := hasB lo hi) (n := n) hok.borns he9 hn9 HP.out)
      have HRO := Lib.hid (show rowOf (hasB lo hi) n e9 = if (atV e9.vs n).2 && hasB lo hi e9.key then [⟨e9.key, (atV e9.vs n).1⟩] else [] from rfl)
      generalize atV e9.vs n = y at *
      obtain ⟨yv, yb⟩ := y
      generalize hasB lo hi e9.key = hb at *
      dsimp only at HAT HRO
      cases yb with
      | false =>
        have HR2 := Lib.hid (show (O ++ rowOf (hasB lo hi) n e9).Perm (scanL (seenL (seen ++ [e9.born]) L) (hasB lo hi) n) → O.Perm (scanL (seenL (seen ++ [e9.born]) L) (hasB lo hi) n) from by rw [HRO.out, show (if (false && hb) = true then [(⟨e9.key, yv⟩ : Rw)] else []) = [] from rfl, List.append_nil]; exact id)
        go_wp2_with (first | (go_at_call 137; (with_reducible apply Calls.mono (HAT _ (rows_at (hO.factOf (r := Rows L) pk_) he9)); rintro e8 w8 ⟨rfl, hx8⟩; replace hO := hO.ext hx8; clear hx8; dsimp only; ((try clear hf); have hf := fa_ hO))) | (go_at_call 69; (with_reducible apply Calls.mono (HH _); rintro e8 w8 ⟨rfl, hx8⟩; replace hO := hO.ext hx8; clear hx8; dsimp only; ((try clear hf); have hf := fa_ hO))) | ((refine sy_ hO ?_); clear hO; intro w9 hO; (try dsimp only [List.set] at hO); ((try clear hf); have hf := fa_ hO)))
        have e3 := seenOf_at hO pk_
        rw [e3]
        refine ⟨⟨seen ++ [(VE.en e9).born], oa, oc, O, rfl, Lib.hid (HR2.out HST.out), ?_⟩, leftS_lt he9 hn9⟩
        (try simp only [CA])
        exact hO.cut sb_
      | true =>
        cases hb with
        | false =>
          have HR2 := Lib.hid (show (O ++ rowOf (hasB lo hi) n e9).Perm (scanL (seenL (seen ++ [e9.born]) L) (hasB lo hi) n) → O.Perm (scanL (seenL (seen ++ [e9.born]) L) (hasB lo hi) n) from by rw [HRO.out, show (if (true && false) = true then [(⟨e9.key, yv⟩ : Rw)] else []) = [] from rfl, List.append_nil]; exact id)
          go_wp2_with (first | (go_at_call 137; (with_reducible apply Calls.mono (HAT _ (rows_at (hO.factOf (r := Rows L) pk_) he9)); rintro e8 w8 ⟨rfl, hx8⟩; replace hO := hO.ext hx8; clear hx8; dsimp only; ((try clear hf); have hf := fa_ hO))) | (go_at_call 69; (with_reducible apply Calls.mono (HH _); rintro e8 w8 ⟨rfl, hx8⟩; replace hO := hO.ext hx8; clear hx8; dsimp only; ((try clear hf); have hf := fa_ hO))) | ((refine sy_ hO ?_); clear hO; intro w9 hO; (try dsimp only [List.set] at hO); ((try clear hf); have hf := fa_ hO)))
          have e3 := seenOf_at hO pk_
          rw [e3]
          refine ⟨⟨seen ++ [(VE.en e9).born], oa, oc, O, rfl, Lib.hid (HR2.out HST.out), ?_⟩, leftS_lt he9 hn9⟩
          (try simp only [CA])
          exact hO.cut sb_
        | true =>
          have HR2 := Lib.hid (show (O ++ rowOf (hasB lo hi) n e9).Perm (scanL (seenL (seen ++ [e9.born]) L) (hasB lo hi) n) → (O ++ [(⟨e9.key, yv⟩ : Rw)]).Perm (scanL (seenL (seen ++ [e9.born]) L) (hasB lo hi) n) from by rw [HRO.out, show (if (true && true) = true then [(⟨e9.key, yv⟩ : Rw)] else []) = [(⟨e9.key, yv⟩ : Rw)] from rfl]; exact id)
          go_wp2_with (first | (go_at_call 137; (with_reducible apply Calls.mono (HAT _ (rows_at (hO.factOf (r := Rows L) pk_) he9)); rintro e8 w8 ⟨rfl, hx8⟩; replace hO := hO.ext hx8; clear hx8; dsimp only; ((try clear hf); have hf := fa_ hO))) | (go_at_call 69; (with_reducible apply Calls.mono (HH _); rintro e8 w8 ⟨rfl, hx8⟩; replace hO := hO.ext hx8; clear hx8; dsimp only; ((try clear hf); have hf := fa_ hO))) | (at_builtin; (refine wpList_append_var (e := 80) (size := 2) (xs := O.flatMap rwC) (news := [.string e9.key, .string yv]) hO pk_ pk_ rfl (.tmp 34) (.tmp 38) 22 rfl iR _ 32 Tryz.underlying22 hiR hzR hsR hbR rfl (by omega) rfl _ _ rfl (by rfl) (by repeat (first | exact ones_nil | refine ones_cons rfl ?_)) (by unfold maxLen; omega) (by omega) ?_; clear hO; intro ka9 kc9 w9 hO; ((try clear hf); have hf := fa_ hO))) | ((refine sy_ hO ?_); clear hO; intro w9 hO; (try dsimp only [List.set] at hO); ((try clear hf); have hf := fa_ hO)))
          have e3 := seenOf_at hO pk_
          rw [e3]
          have hl : (O ++ [(⟨e9.key, yv⟩ : Rw)]).length = O.length + 1 := by rw [List.length_append]; rfl
          refine ⟨⟨seen ++ [(VE.en e9).born], ka9, kc9, O ++ [⟨e9.key, yv⟩], by rw [hl], Lib.hid (HR2.out HST.out), ?_⟩, leftS_lt he9 hn9⟩
          rw [hl, flat_snoc]
          (try simp only [CA])
          exact hO.cut sb_
end Go.Proofs.YtmknhibaoopjjaaGreatDoor
namespace Go.Proofs.YtmknhibaoopjjaaGreatDoor
open Go.RowKit
end Go.Proofs.YtmknhibaoopjjaaGreatDoor
