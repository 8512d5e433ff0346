/- Package change: Put, Find. -/
import Derived.Test.YtmjdgcgmlgbfjaaDoorBsf
set_option linter.unusedVariables false
set_option linter.unusedSimpArgs false
namespace Go.Proofs.YtmjdgcgmlgbfjaaDoor
open Go.RowKit
set_option maxHeartbeats 1000000 in
set_option maxRecDepth 100000 in
theorem cloneC_any (a : Option Addr) (n c : Nat) (l : List Ch) (hl : l.length = n) (hn : n ≤ 1000) {φ : World → Prop} (hφ : ∀ w, φ w → ChAt w a l) :
    Does Tryd.prog 59 #[.slice a n c] [.imm φ] (fun x : Option Addr × Nat => (.slice x.1 n x.2, [Row2 60 3 x.1 n x.2 (chs l), .imm φ])) := by
  obtain ⟨iC, hiC, hzC, hsC, hbC⟩ := info_parts Tryd.infoCh
  intro S W w L0 hO; simp only [List.cons_append, List.nil_append] at hO
  ((try clear hf); have hf := hO.facts; (try simp only [FX, Nat.zero_add, Nat.reduceAdd, and_true, true_and, List.map_cons, List.map_nil, List.cons_append, List.nil_append] at hf))
  have hc := hφ _ hf.1
  have hu := Tryd.underlying58
  cases a with
  | none =>
    have h0 : l = [] := by
      cases l with
      | nil => rfl
      | cons y l =>
        obtain ⟨b, off, h⟩ := ChAt.some hc (by simp)
        cases h
    subst h0
    have h0 : n = 0 := by rw [← hl]; rfl
    subst h0
    go_enter Tryd.func59, Tryd.ntmps59
    go_wp2_with (first | ((first | with_reducible refine wpList_alloc_own hO ?_ | with_reducible refine wpList_drew_own hO ?_ | with_reducible refine wp_alloc_own hO ?_ | with_reducible refine wp_drew_own hO ?_ | with_reducible refine bodyPost_alloc_own hO ?_ | with_reducible refine bodyPost_drew_own hO ?_ | ((first | with_reducible apply wpList_set_own | with_reducible apply wp_set_own | with_reducible apply bodyPost_set_own); (focus (first | (with_reducible apply Own.set; (focus (with_reducible apply hO)); (repeat (first | with_reducible exact Put.here _ _ _ | with_reducible apply Put.there)); done) | (with_reducible apply Own.setRow; (focus (with_reducible apply hO)); (focus (repeat (first | with_reducible exact Put.here _ _ _ | with_reducible apply Put.there))); first | assumption | (simp; omega) | (simp; assumption)) | ((repeat' (first | with_reducible apply hO | with_reducible apply Own.set)); all_goals (repeat (first | with_reducible exact Put.here _ _ _ | with_reducible apply Put.there)); done))))); clear hO; intro w9 hO; (try dsimp only [List.set] at hO); ((try clear hf); have hf := hO.facts; (try simp only [FX, Nat.zero_add, Nat.reduceAdd, and_true, true_and, List.map_cons, List.map_nil, List.cons_append, List.nil_append] at hf))))
    go_ret
    refine ⟨(none, 0), rfl, ?_⟩
    exact hO.nil _ _
  | some ad =>
    subst hl
    go_enter Tryd.func59, Tryd.ntmps59
    go_wp2_with (first | (at_builtin; (have hO9 := hO.pick (r := Var _ [] 60) (by repeat (first | with_reducible exact Pick.here _ _ | with_reducible apply Pick.there)); replace hO := Own.varRow (n := 0) (size := 3) rfl (by simp [maxLen]) hO9; clear hO9; refine wpList_append_src hO (by repeat (first | with_reducible exact Pick.here _ _ | with_reducible apply Pick.there)) rfl (.tmp 5) (.tmp 6) 58 rfl iC _ 40 Tryd.underlying58 hiC hzC hsC hbC rfl (by omega) rfl (some ad) l.length _ (chs l) rfl (chs_length l) (hφ _ (hO.immOf (by repeat (first | with_reducible exact Pick.here _ _ | with_reducible apply Pick.there)))) (chs_one l) (by unfold maxLen; omega) (by omega) ?_; clear hO; intro ka9 kc9 w9 hO; ((try clear hf); have hf := hO.facts; (try simp only [FX, Nat.zero_add, Nat.reduceAdd, and_true, true_and, List.map_cons, List.map_nil, List.cons_append, List.nil_append] at hf)))) | ((first | with_reducible refine wpList_alloc_own hO ?_ | with_reducible refine wpList_drew_own hO ?_ | with_reducible refine wp_alloc_own hO ?_ | with_reducible refine wp_drew_own hO ?_ | with_reducible refine bodyPost_alloc_own hO ?_ | with_reducible refine bodyPost_drew_own hO ?_ | ((first | with_reducible apply wpList_set_own | with_reducible apply wp_set_own | with_reducible apply bodyPost_set_own); (focus (first | (with_reducible apply Own.set; (focus (with_reducible apply hO)); (repeat (first | with_reducible exact Put.here _ _ _ | with_reducible apply Put.there)); done) | (with_reducible apply Own.setRow; (focus (with_reducible apply hO)); (focus (repeat (first | with_reducible exact Put.here _ _ _ | with_reducible apply Put.there))); first | assumption | (simp; omega) | (simp; assumption)) | ((repeat' (first | with_reducible apply hO | with_reducible apply Own.set)); all_goals (repeat (first | with_reducible exact Put.here _ _ _ | with_reducible apply Put.there)); done))))); clear hO; intro w9 hO; (try dsimp only [List.set] at hO); ((try clear hf); have hf := hO.facts; (try simp only [FX, Nat.zero_add, Nat.reduceAdd, and_true, true_and, List.map_cons, List.map_nil, List.cons_append, List.nil_append] at hf))))
    go_ret
    refine ⟨(ka9, kc9), by simp, ?_⟩
    simp only [Nat.zero_add, List.nil_append] at hO
    exact hO.give (by repeat (first | with_reducible exact Takes.nil _ | with_reducible apply Takes.cons | with_reducible exact Pick.here _ _ | with_reducible apply Pick.there)) (by repeat (first | exact Keeps.here _ | apply Keeps.skip))
/-- Insert, wherever. -/
theorem insertC_does (a : Option Addr) (n c g vc i : Nat) (l : List Ch) (x : Ch) (hl : l.length = n) (hn : n ≤ 1000) (hi : i ≤ n) :
    Does Tryd.prog 61 #[.slice a n c, .int .i64 i, .slice (some ⟨g, 0, none⟩) 1 vc] [Row2 60 3 a n c (chs l), Var g x.cells 60]
      (fun p : Option Addr × Nat => (.slice p.1 (n + 1) p.2, [Row2 60 3 p.1 (n + 1) p.2 (chs (insAt l i x))])) := by
  intro S W w L0 hO
  have hO1 := hO
  simp only [List.cons_append, List.nil_append] at hO1
  obtain ⟨_, h2, h3⟩ := hO1.rowLen (.here _ _)
  unfold maxLen at h3
  rcases Nat.eq_or_lt_of_le hi with rfl | hlt
  · exact insertC_end a i c g vc l x hl hn h2 S W w L0 hO
  · obtain ⟨g0, rfl, _⟩ := hO1.rowAt (.here _ _) (by omega)
    by_cases hc : c ≤ n
    · exact insertC_grow g0 n c g vc i l x hl hn hlt h2 hc S W w L0 hO
    · exact insertC_shift g0 n c g vc i l x hl hn hlt (by omega) h3 S W w L0 hO
theorem Own.rowCh {S : Nat → Prop} {W w : World} {l l' : List Rs} {a : Option Addr} {n c : Nat} {cs : List Ch} (h : Own S W w l) (hp : Pick l (Row2 60 3 a n c (chs cs)) l') : ChAt w a cs := h.vals hp
theorem chs_set (l : List Ch) (i : Nat) (x : Ch) (hi : i < l.length) : chs (l.set i x) = (((chs l).set (i * 3) (.string x.key)).set (i * 3 + 1) (.string x.val)).set (i * 3 + 2) (.bool x.gone) := by
  induction l generalizing i with
  | nil => simp at hi
  | cons y l ih =>
    cases i with
    | zero => rfl
    | succ i =>
      rw [List.set_cons_succ, show (i + 1) * 3 = i * 3 + 3 from by omega]
      show y.cells ++ chs (l.set i x) = (((y.cells ++ chs l).set (i * 3 + 3) _).set (i * 3 + 3 + 1) _).set (i * 3 + 3 + 2) _
      rw [ih i (by simpa using hi)]
      rfl
set_option maxHeartbeats 2000000 in
set_option maxRecDepth 100000 in
theorem put_does (a : Option Addr) (n c : Nat) (l : List Ch) (x : Ch) (hl : l.length = n) (hn : n ≤ 900) (hU : Ups l) {φ : World → Prop} (hφ : ∀ w, φ w → ChAt w a l) :
    Does Tryd.prog 42 #[.slice a n c, x.v] [.imm φ] (fun p : Option Addr × Nat => (.slice p.1 (putC l x).length p.2, [Row2 60 3 p.1 (putC l x).length p.2 (chs (putC l x)), .imm φ])) := by
  have HC := cloneC_any a n c l hl (by omega) hφ
  have hle := idxC_le l x.key
  have HB := fun a c w hA => bsfPut_any a n c l x.key w hl (by omega) hA hU
  by_cases hfound : ∃ hi : idxC l x.key < l.length, l[idxC l x.key].key = x.key
  · obtain ⟨hi, hk⟩ := hfound
    rw [hU.put_set hi hk, List.length_set, chs_set _ _ _ hi, hl]
    rw [hU.isAt_at hi, decide_eq_true hk] at HB
    have hi0 := hi
    rw [hl] at hle hi
    generalize idxC l x.key = i at *
    clear hk
    intro S W w L0 hO; simp only [List.cons_append, List.nil_append] at hO
    ((try clear hf); have hf := hO.facts; (try simp only [FX, Nat.zero_add, Nat.reduceAdd, and_true, true_and, List.map_cons, List.map_nil, List.cons_append, List.nil_append] at hf))
    unfold Ch.v
    go_enter Tryd.func42, Tryd.ntmps42
    go_wp2_with (first | (go_at_call 59; (with_reducible apply Does.use hO (HC); (focus (repeat (first | with_reducible exact Takes.nil _ | with_reducible apply Takes.cons | with_reducible exact Pick.here _ _ | with_reducible apply Pick.there))); clear hO; intro x9 w9 hO; dsimp only at hO ⊢; simp only [List.cons_append, List.nil_append] at hO; ((try clear hf); have hf := hO.facts; (try simp only [FX, Nat.zero_add, Nat.reduceAdd, and_true, true_and, List.map_cons, List.map_nil, List.cons_append, List.nil_append] at hf)); obtain ⟨ca, cc⟩ := x9; dsimp only at hO ⊢; ((try clear hf); have hf := hO.facts; (try simp only [FX, Nat.zero_add, Nat.reduceAdd, and_true, true_and, List.map_cons, List.map_nil, List.cons_append, List.nil_append] at hf)))) | (go_at_call 56; (have hA8 := hO.rowCh (a := ca) (n := n) (c := cc) (cs := l) (by repeat (first | with_reducible exact Pick.here _ _ | with_reducible apply Pick.there)); with_reducible apply Calls.mono (HB _ _ _ hA8); clear hA8; rintro e8 w8 ⟨rfl, hx8⟩; replace hO := hO.ext hx8; clear hx8; dsimp only; ((try clear hf); have hf := hO.facts; (try simp only [FX, Nat.zero_add, Nat.reduceAdd, and_true, true_and, List.map_cons, List.map_nil, List.cons_append, List.nil_append] at hf)); obtain ⟨g0, rfl, hq⟩ := hO.rowAt (e := 60) (size := 3) (a := ca) (n := n) (cap := cc) (xs := chs l) (by repeat (first | with_reducible exact Pick.here _ _ | with_reducible apply Pick.there)) (by omega); obtain ⟨c0, c1, c2⟩ := ChAt.at (b := g0) (off := 0) (hO.rowCh (a := some ⟨g0, 0, none⟩) (n := n) (c := cc) (cs := l) (by repeat (first | with_reducible exact Pick.here _ _ | with_reducible apply Pick.there))) hi0; simp only [Nat.zero_add] at c0 c1 c2)) | ((first | with_reducible refine wpList_alloc_own hO ?_ | with_reducible refine wpList_drew_own hO ?_ | with_reducible refine wp_alloc_own hO ?_ | with_reducible refine wp_drew_own hO ?_ | with_reducible refine bodyPost_alloc_own hO ?_ | with_reducible refine bodyPost_drew_own hO ?_ | ((first | with_reducible apply wpList_set_own | with_reducible apply wp_set_own | with_reducible apply bodyPost_set_own); (focus (first | (with_reducible apply Own.set; (focus (with_reducible apply hO)); (repeat (first | with_reducible exact Put.here _ _ _ | with_reducible apply Put.there)); done) | (with_reducible apply Own.setRow; (focus (with_reducible apply hO)); (focus (repeat (first | with_reducible exact Put.here _ _ _ | with_reducible apply Put.there))); first | assumption | (simp; omega) | (simp; assumption)) | ((repeat' (first | with_reducible apply hO | with_reducible apply Own.set)); all_goals (repeat (first | with_reducible exact Put.here _ _ _ | with_reducible apply Put.there)); done))))); clear hO; intro w9 hO; (try dsimp only [List.set] at hO); ((try clear hf); have hf := hO.facts; (try simp only [FX, Nat.zero_add, Nat.reduceAdd, and_true, true_and, List.map_cons, List.map_nil, List.cons_append, List.nil_append] at hf))))
    go_ret
    refine ⟨(some ⟨g0, 0, none⟩, cc), rfl, ?_⟩
    replace hO := Own.setRow (i := i * 3 + 2) (v := .bool x.gone) (Own.setRow (i := i * 3 + 1) (v := .string x.val) (Own.setRow (i := i * 3) (v := .string x.key) hO (Put.here _ _ _) (by rw [chs_length]; omega)) (Put.here _ _ _) (by rw [List.length_set, chs_length]; omega)) (Put.here _ _ _) (by rw [List.length_set, List.length_set, chs_length]; omega)
    exact hO.give (by repeat (first | with_reducible exact Takes.nil _ | with_reducible apply Takes.cons | with_reducible exact Pick.here _ _ | with_reducible apply Pick.there)) (by repeat (first | exact Keeps.here _ | apply Keeps.skip))
  · have hno : ∀ (hi : idxC l x.key < l.length), l[idxC l x.key].key ≠ x.key := fun hi hk => hfound ⟨hi, hk⟩
    rw [hU.put_ins hno, insAt_length _ _ _ hle, hl]
    rw [show isAt l x.key = false from by unfold isAt; rw [hU.find_no hno]; rfl] at HB
    rw [hl] at hle
    clear hfound hno
    generalize idxC l x.key = i at *
    have HI : ∀ a c g vc, Does Tryd.prog 61 #[.slice a n c, .int .i64 i, .slice (some ⟨g, 0, none⟩) 1 vc] [Row2 60 3 a n c (chs l), Var g [.string x.key, .string x.val, .bool x.gone] 60]
      (fun p : Option Addr × Nat => (.slice p.1 (n + 1) p.2, [Row2 60 3 p.1 (n + 1) p.2 (chs (insAt l i x))])) := fun a c g vc => insertC_does a n c g vc i l x hl (by omega) hle
    intro S W w L0 hO; simp only [List.cons_append, List.nil_append] at hO
    ((try clear hf); have hf := hO.facts; (try simp only [FX, Nat.zero_add, Nat.reduceAdd, and_true, true_and, List.map_cons, List.map_nil, List.cons_append, List.nil_append] at hf))
    unfold Ch.v
    go_enter Tryd.func42, Tryd.ntmps42
    go_wp2_with (first | (go_at_call 59; (with_reducible apply Does.use hO (HC); (focus (repeat (first | with_reducible exact Takes.nil _ | with_reducible apply Takes.cons | with_reducible exact Pick.here _ _ | with_reducible apply Pick.there))); clear hO; intro x9 w9 hO; dsimp only at hO ⊢; simp only [List.cons_append, List.nil_append] at hO; ((try clear hf); have hf := hO.facts; (try simp only [FX, Nat.zero_add, Nat.reduceAdd, and_true, true_and, List.map_cons, List.map_nil, List.cons_append, List.nil_append] at hf)); obtain ⟨ca, cc⟩ := x9; dsimp only at hO ⊢; ((try clear hf); have hf := hO.facts; (try simp only [FX, Nat.zero_add, Nat.reduceAdd, and_true, true_and, List.map_cons, List.map_nil, List.cons_append, List.nil_append] at hf)))) | (go_at_call 56; (have hA8 := hO.rowCh (a := ca) (n := n) (c := cc) (cs := l) (by repeat (first | with_reducible exact Pick.here _ _ | with_reducible apply Pick.there)); with_reducible apply Calls.mono (HB _ _ _ hA8); clear hA8; rintro e8 w8 ⟨rfl, hx8⟩; replace hO := hO.ext hx8; clear hx8; dsimp only; ((try clear hf); have hf := hO.facts; (try simp only [FX, Nat.zero_add, Nat.reduceAdd, and_true, true_and, List.map_cons, List.map_nil, List.cons_append, List.nil_append] at hf)))) | (go_at_call 61; (with_reducible apply Does.use hO (HI _ _ _ _); (focus (repeat (first | with_reducible exact Takes.nil _ | with_reducible apply Takes.cons | with_reducible exact Pick.here _ _ | with_reducible apply Pick.there))); clear hO; intro x9 w9 hO; dsimp only at hO ⊢; simp only [List.cons_append, List.nil_append] at hO; ((try clear hf); have hf := hO.facts; (try simp only [FX, Nat.zero_add, Nat.reduceAdd, and_true, true_and, List.map_cons, List.map_nil, List.cons_append, List.nil_append] at hf)); obtain ⟨da, dc⟩ := x9; dsimp only at hO ⊢; ((try clear hf); have hf := hO.facts; (try simp only [FX, Nat.zero_add, Nat.reduceAdd, and_true, true_and, List.map_cons, List.map_nil, List.cons_append, List.nil_append] at hf)))) | ((first | with_reducible refine wpList_alloc_own hO ?_ | with_reducible refine wpList_drew_own hO ?_ | with_reducible refine wp_alloc_own hO ?_ | with_reducible refine wp_drew_own hO ?_ | with_reducible refine bodyPost_alloc_own hO ?_ | with_reducible refine bodyPost_drew_own hO ?_ | ((first | with_reducible apply wpList_set_own | with_reducible apply wp_set_own | with_reducible apply bodyPost_set_own); (focus (first | (with_reducible apply Own.set; (focus (with_reducible apply hO)); (repeat (first | with_reducible exact Put.here _ _ _ | with_reducible apply Put.there)); done) | (with_reducible apply Own.setRow; (focus (with_reducible apply hO)); (focus (repeat (first | with_reducible exact Put.here _ _ _ | with_reducible apply Put.there))); first | assumption | (simp; omega) | (simp; assumption)) | ((repeat' (first | with_reducible apply hO | with_reducible apply Own.set)); all_goals (repeat (first | with_reducible exact Put.here _ _ _ | with_reducible apply Put.there)); done))))); clear hO; intro w9 hO; (try dsimp only [List.set] at hO); ((try clear hf); have hf := hO.facts; (try simp only [FX, Nat.zero_add, Nat.reduceAdd, and_true, true_and, List.map_cons, List.map_nil, List.cons_append, List.nil_append] at hf))))
    go_ret
    refine ⟨(da, dc), rfl, ?_⟩
    exact hO.give (by repeat (first | with_reducible exact Takes.nil _ | with_reducible apply Takes.cons | with_reducible exact Pick.here _ _ | with_reducible apply Pick.there)) (by repeat (first | exact Keeps.here _ | apply Keeps.skip))
set_option maxHeartbeats 2000000 in
set_option maxRecDepth 100000 in
theorem find_any (a : Option Addr) (n c : Nat) (l : List Ch) (k : ByteArray) (w : World) (hl : l.length = n) (hn : n ≤ 1000) (hA : ChAt w a l) (hU : Ups l) :
    Calls Tryd.prog 40 #[.slice a n c, .string k] w fun e w' => e = .returned (.tuple #[((findC l k).getD ⟨⟨#[]⟩, ⟨#[]⟩, false⟩).v, .bool (findC l k).isSome]) ∧ Ext w w' := by
  have hO := vals_base (fun _ => False) hA
  ((try clear hf); have hf := hO.facts; (try simp only [FX, Nat.zero_add, Nat.reduceAdd, and_true, true_and, List.map_cons, List.map_nil, List.cons_append, List.nil_append] at hf))
  have hle := idxC_le l k
  have HB := fun w hA => bsfFind_any a n c l k w hl hn hA hU
  by_cases hfound : ∃ hi : idxC l k < l.length, l[idxC l k].key = k
  · obtain ⟨hi, hk⟩ := hfound
    rw [hU.find_yes hi hk]
    rw [hU.isAt_at hi, decide_eq_true hk] at HB
    have hi0 := hi
    rw [hl] at hle hi
    generalize idxC l k = i at *
    clear hk
    obtain ⟨b, off, rfl⟩ := ChAt.some (a := a) hA (by omega)
    have hcells := fun w (h : ValsAt w (some ⟨b, off, none⟩) (chs l)) => ChAt.at (w := w) (l := l) (b := b) (off := off) h hi0
    show Calls _ _ _ _ fun e w' => e = .returned (.tuple #[l[i].v, .bool true]) ∧ _
    generalize l[i] = x at *
    unfold Ch.v
    go_enter Tryd.func40, Tryd.ntmps40
    go_wp2_with (first | (go_at_call 56; (have hA8 : ChAt _ (some ⟨b, off, none⟩) l := Own.immOf (φ := fun w => ValsAt w (some ⟨b, off, none⟩) (chs l)) hO (by repeat (first | with_reducible exact Pick.here _ _ | with_reducible apply Pick.there)); with_reducible apply Calls.mono (HB _ hA8); clear hA8; rintro e8 w8 ⟨rfl, hx8⟩; replace hO := hO.ext hx8; clear hx8; dsimp only; ((try clear hf); have hf := hO.facts; (try simp only [FX, Nat.zero_add, Nat.reduceAdd, and_true, true_and, List.map_cons, List.map_nil, List.cons_append, List.nil_append] at hf)); obtain ⟨c0, c1, c2⟩ := hcells _ (Own.immOf (φ := fun w => ValsAt w (some ⟨b, off, none⟩) (chs l)) hO (by repeat (first | with_reducible exact Pick.here _ _ | with_reducible apply Pick.there))))) | ((first | with_reducible refine wpList_alloc_own hO ?_ | with_reducible refine wpList_drew_own hO ?_ | with_reducible refine wp_alloc_own hO ?_ | with_reducible refine wp_drew_own hO ?_ | with_reducible refine bodyPost_alloc_own hO ?_ | with_reducible refine bodyPost_drew_own hO ?_ | ((first | with_reducible apply wpList_set_own | with_reducible apply wp_set_own | with_reducible apply bodyPost_set_own); (focus (first | (with_reducible apply Own.set; (focus (with_reducible apply hO)); (repeat (first | with_reducible exact Put.here _ _ _ | with_reducible apply Put.there)); done) | (with_reducible apply Own.setRow; (focus (with_reducible apply hO)); (focus (repeat (first | with_reducible exact Put.here _ _ _ | with_reducible apply Put.there))); first | assumption | (simp; omega) | (simp; assumption)) | ((repeat' (first | with_reducible apply hO | with_reducible apply Own.set)); all_goals (repeat (first | with_reducible exact Put.here _ _ _ | with_reducible apply Put.there)); done))))); clear hO; intro w9 hO; (try dsimp only [List.set] at hO); ((try clear hf); have hf := hO.facts; (try simp only [FX, Nat.zero_add, Nat.reduceAdd, and_true, true_and, List.map_cons, List.map_nil, List.cons_append, List.nil_append] at hf))))
    refine bodyPost_run rfl fun K hK => ?_; simp [results, Tryd.results40, go_sem, hf]; exact hK _ ⟨rfl, hO.toExt⟩
  · have hno : ∀ (hi : idxC l k < l.length), l[idxC l k].key ≠ k := fun hi hk => hfound ⟨hi, hk⟩
    rw [hU.find_no hno]
    rw [show isAt l k = false from by unfold isAt; rw [hU.find_no hno]; rfl] at HB
    clear hfound hno
    generalize idxC l k = i at *
    show Calls _ _ _ _ fun e w' => e = .returned (.tuple #[.agg #[.string ⟨#[]⟩, .string ⟨#[]⟩, .bool false], .bool false]) ∧ _
    go_enter Tryd.func40, Tryd.ntmps40
    go_wp2_with (first | (go_at_call 56; (have hA8 : ChAt _ a l := Own.immOf (φ := fun w => ValsAt w a (chs l)) hO (by repeat (first | with_reducible exact Pick.here _ _ | with_reducible apply Pick.there)); with_reducible apply Calls.mono (HB _ hA8); clear hA8; rintro e8 w8 ⟨rfl, hx8⟩; replace hO := hO.ext hx8; clear hx8; dsimp only; ((try clear hf); have hf := hO.facts; (try simp only [FX, Nat.zero_add, Nat.reduceAdd, and_true, true_and, List.map_cons, List.map_nil, List.cons_append, List.nil_append] at hf)))) | ((first | with_reducible refine wpList_alloc_own hO ?_ | with_reducible refine wpList_drew_own hO ?_ | with_reducible refine wp_alloc_own hO ?_ | with_reducible refine wp_drew_own hO ?_ | with_reducible refine bodyPost_alloc_own hO ?_ | with_reducible refine bodyPost_drew_own hO ?_ | ((first | with_reducible apply wpList_set_own | with_reducible apply wp_set_own | with_reducible apply bodyPost_set_own); (focus (first | (with_reducible apply Own.set; (focus (with_reducible apply hO)); (repeat (first | with_reducible exact Put.here _ _ _ | with_reducible apply Put.there)); done) | (with_reducible apply Own.setRow; (focus (with_reducible apply hO)); (focus (repeat (first | with_reducible exact Put.here _ _ _ | with_reducible apply Put.there))); first | assumption | (simp; omega) | (simp; assumption)) | ((repeat' (first | with_reducible apply hO | with_reducible apply Own.set)); all_goals (repeat (first | with_reducible exact Put.here _ _ _ | with_reducible apply Put.there)); done))))); clear hO; intro w9 hO; (try dsimp only [List.set] at hO); ((try clear hf); have hf := hO.facts; (try simp only [FX, Nat.zero_add, Nat.reduceAdd, and_true, true_and, List.map_cons, List.map_nil, List.cons_append, List.nil_append] at hf))))
    refine bodyPost_run rfl fun K hK => ?_; simp [results, Tryd.results40, go_sem, hf]; exact hK _ ⟨rfl, hO.toExt⟩
end Go.Proofs.YtmjdgcgmlgbfjaaDoor
