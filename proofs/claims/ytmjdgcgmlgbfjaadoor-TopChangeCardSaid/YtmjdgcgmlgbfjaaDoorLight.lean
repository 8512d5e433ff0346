/- Package haywainlaw: which changes are light, which rise; package haywainref: are two lists of changes the same. -/
import Derived.Test.YtmjdgcgmlgbfjaaDoorCh
import Derived.Test.YtmjdgcgmlgbfjaaDoorBsf
set_option linter.unusedVariables false
set_option linter.unusedSimpArgs false
namespace Go.Proofs.YtmjdgcgmlgbfjaaDoor
open Go.RowKit
/-- All of the first k are so. -/
def Upto {α : Type} (p : α → Bool) (l : List α) (k : Nat) : Prop := (l.take k).all p = true
theorem Upto.zero {α : Type} {p : α → Bool} {l : List α} : Upto p l 0 := by simp [Upto]
theorem Upto.snoc {α : Type} {p : α → Bool} {l : List α} {k : Nat} (h : Upto p l k) (hk : k < l.length) (hp : p l[k] = true) : Upto p l (k + 1) := by
  unfold Upto at *; rw [List.take_succ_eq_append_getElem hk, List.all_append, h]; simp [hp]
theorem Upto.all {α : Type} {p : α → Bool} {l : List α} {k : Nat} (h : Upto p l k) (hk : l.length ≤ k) : l.all p = true := by
  unfold Upto at h; rwa [List.take_of_length_le hk] at h
theorem ret_bool {a b : Bool} (h : a = b) : Ending.returned (.bool a) = .returned (.bool b) := by rw [h]
def lightC (c : Ch) : Bool := decide (c.key.size ≤ 60) && decide (c.val.size ≤ 100)
def lightCs (l : List Ch) (most : Nat) : Bool := decide (l.length ≤ most) && l.all lightC
theorem lightCs_many {l : List Ch} {most : Nat} (h : most < l.length) : lightCs l most = false := by
  have : ¬ l.length ≤ most := by omega
  simp [lightCs, this]
theorem lightCs_eq {l : List Ch} {most : Nat} (h : l.length ≤ most) : lightCs l most = l.all lightC := by
  simp [lightCs, h]
theorem lightC_no {s : Ch} (h : 60 < s.key.size ∨ 100 < s.val.size) : lightC s = false := by
  simp [lightC]; omega
theorem lightC_yes {s : Ch} (h : s.key.size ≤ 60 ∧ s.val.size ≤ 100) : lightC s = true := by
  simp [lightC]; omega
theorem lightCs_of {l : List Ch} {most : Nat} (h : lightCs l most = true) : l.length ≤ most ∧ ∀ c ∈ l, c.key.size ≤ 60 ∧ c.val.size ≤ 100 := by
  unfold lightCs at h
  rw [Bool.and_eq_true] at h
  refine ⟨of_decide_eq_true h.1, fun c hc => ?_⟩
  have := List.all_eq_true.1 h.2 c hc
  unfold lightC at this
  rw [Bool.and_eq_true] at this
  exact ⟨of_decide_eq_true this.1, of_decide_eq_true this.2⟩
set_option maxHeartbeats 2000000 in
set_option maxRecDepth 100000 in
theorem lightCs_any (a : Option Addr) (n cap : Nat) (l : List Ch) (most : Nat) (w : World) (hl : l.length = n) (hn : n ≤ 9223372036854775807) (hm : most ≤ 1000) (hs : ChAt w a l) :
    Calls Tryd.prog 32 #[.slice a n cap, .int .i64 most] w fun e w' => e = .returned (.bool (lightCs l most)) ∧ w' = w := by
  by_cases hmany : most < n
  · have hb := lightCs_many (l := l) (most := most) (by omega)
    generalize lightCs l most = b at *
    subst hb
    go_enter Tryd.func32, Tryd.ntmps32
    go_wp2
    go_ret
    exact ⟨rfl, rfl⟩
  · have he := lightCs_eq (l := l) (most := most) (by omega)
    have HE := Lib.hid he
    clear he
    go_enter Tryd.func32, Tryd.ntmps32
    go_wp2
    go_loop [5] (fun i => ∃ k : Nat, k ≤ n ∧ i = .int .i64 k ∧ Hid (Upto lightC l k)) (fun i => n - (intOf i).toNat)
    case atStart => exact ⟨0, by omega, rfl, Lib.hid Upto.zero⟩
    case round =>
      obtain ⟨k, hk, rfl, HA⟩ := hrel
      by_cases hlt : k < n
      · have hlt2 : k < l.length := by omega
        obtain ⟨b, off, rfl⟩ := ChAt.some (a := a) hs (by omega)
        obtain ⟨c0, c1, c2⟩ := ChAt.at (b := b) (off := off) hs hlt2
        have hno : lightC l[k] = false → lightCs l most = false := fun h => HE.out.trans (all_false_at _ _ k hlt2 h)
        have hyes : lightC l[k] = true → Upto lightC l (k + 1) := fun h => HA.out.snoc hlt2 h
        have HN := Lib.hid hno
        have HY := Lib.hid hyes
        clear hno hyes
        generalize l[k] = x at *
        by_cases h60 : x.key.size ≤ 60
        · by_cases h100 : x.val.size ≤ 100
          · go_wp2
            exact ⟨⟨k + 1, by omega, by go_num, Lib.hid (HY.out (lightC_yes ⟨h60, h100⟩))⟩, by simp [intOf]; omega⟩
          · go_wp2
            go_ret
            exact ⟨ret_bool (HN.out (lightC_no (.inr (by omega)))).symm, rfl⟩
        · go_wp2
          go_ret
          exact ⟨ret_bool (HN.out (lightC_no (.inl (by omega)))).symm, rfl⟩
      · have hb := Lib.hid (HE.out.trans (HA.out.all (by omega)))
        go_wp2
        go_ret
        exact ⟨ret_bool hb.out.symm, rfl⟩
/-- Do they rise as far as that? -/
def Rise (l : List Ch) (k : Nat) : Prop := ∀ i (h : i + 1 < l.length), i + 1 < k → slt l[i].key l[i + 1].key = true
theorem Rise.ups {l : List Ch} {k : Nat} (h : Rise l k) (hk : l.length ≤ k) : Ups l := by
  have g : ∀ d i (hi : i + d + 1 < l.length), slt l[i].key l[i + d + 1].key = true := by
    intro d
    induction d with
    | zero => exact fun i hi => h i hi (by omega)
    | succ d ih => exact fun i hi => slt_trans (ih i (by omega)) (h (i + d + 1) (by omega) (by omega))
  refine List.pairwise_iff_getElem.2 fun i j hi hj hij => ?_
  have := g (j - i - 1) i (by omega)
  simpa only [show i + (j - i - 1) + 1 = j from by omega] using this
theorem Rise.snoc {l : List Ch} {k : Nat} (h : Rise l k) (hk : k < l.length) (h0 : 0 < k) (hs : slt l[k - 1].key l[k].key = true) : Rise l (k + 1) := fun i hi hik => by
  by_cases e : i + 1 < k
  · exact h i hi e
  · obtain rfl : k = i + 1 := by omega
    exact hs
open Classical in
noncomputable def upsB (l : List Ch) : Bool := decide (Ups l)
open Classical in
theorem upsB_yes {l : List Ch} (h : Ups l) : upsB l = true := by unfold upsB; exact decide_eq_true h
open Classical in
theorem upsB_no {l : List Ch} (h : ¬ Ups l) : upsB l = false := by unfold upsB; exact decide_eq_false h
set_option maxHeartbeats 2000000 in
set_option maxRecDepth 100000 in
theorem rising_any (a : Option Addr) (n c : Nat) (l : List Ch) (w : World) (hl : l.length = n) (hn : n ≤ 1000) (hA : ChAt w a l) :
    Calls Tryd.prog 39 #[.slice a n c] w fun e w' => e = .returned (.bool (upsB l)) ∧ Ext w w' := by
  have hO := vals_base (fun _ => False) hA
  ((try clear hf); have hf := hO.facts; (try simp only [FX, Nat.zero_add, Nat.reduceAdd, and_true, true_and, List.map_cons, List.map_nil, List.cons_append, List.nil_append] at hf))
  go_enter Tryd.func39, Tryd.ntmps39
  go_wp2_with (first | ((first | with_reducible refine wpList_alloc_own hO ?_ | with_reducible refine wpList_drew_own hO ?_ | with_reducible refine wp_alloc_own hO ?_ | with_reducible refine wp_drew_own hO ?_ | with_reducible refine bodyPost_alloc_own hO ?_ | with_reducible refine bodyPost_drew_own hO ?_ | ((first | with_reducible apply wpList_set_own | with_reducible apply wp_set_own | with_reducible apply bodyPost_set_own); (focus (first | (with_reducible apply Own.set; (focus (with_reducible apply hO)); (repeat (first | with_reducible exact Put.here _ _ _ | with_reducible apply Put.there)); done) | (with_reducible apply Own.setRow; (focus (with_reducible apply hO)); (focus (repeat (first | with_reducible exact Put.here _ _ _ | with_reducible apply Put.there))); first | assumption | (simp; omega) | (simp; assumption)) | ((repeat' (first | with_reducible apply hO | with_reducible apply Own.set)); all_goals (repeat (first | with_reducible exact Put.here _ _ _ | with_reducible apply Put.there)); done))))); clear hO; intro w9 hO; (try dsimp only [List.set] at hO); ((try clear hf); have hf := hO.facts; (try simp only [FX, Nat.zero_add, Nat.reduceAdd, and_true, true_and, List.map_cons, List.map_nil, List.cons_append, List.nil_append] at hf))))
  go_loopw [3] (fun v wr => ∃ k : Nat, 1 ≤ k ∧ v = .int .i64 k ∧ Hid (Rise l k) ∧ (k ≤ n ∨ k = 1) ∧ Own (fun _ => False) w wr [.imm fun w => ValsAt w a (chs l)]) (fun v _ => n - (intOf v).toNat)
  case atStart => exact ⟨1, by omega, rfl, Lib.hid (fun i _ h => by omega), .inr rfl, hO⟩
  case round =>
    clear hO
    obtain ⟨k, h1, rfl, HR, hk, hO⟩ := hrel
    rename World => w0
    ((try clear hf); have hf := hO.facts; (try simp only [FX, Nat.zero_add, Nat.reduceAdd, and_true, true_and, List.map_cons, List.map_nil, List.cons_append, List.nil_append] at hf))
    by_cases hlt : k < n
    · obtain ⟨b, off, rfl⟩ := ChAt.some (a := a) hf (by omega)
      have hk2 : k < l.length := by omega
      obtain ⟨j, rfl⟩ : ∃ j, k = j + 1 := ⟨k - 1, by omega⟩
      have hj2 : j < l.length := by omega
      have hcy := fun w (h : ValsAt w (some ⟨b, off, none⟩) (chs l)) => (ChAt.at (w := w) (l := l) (b := b) (off := off) h hk2).1
      have hcx := fun w (h : ValsAt w (some ⟨b, off, none⟩) (chs l)) => (ChAt.at (w := w) (l := l) (b := b) (off := off) h hj2).1
      have HS := fun (h : slt l[j].key l[j + 1].key = true) => Lib.hid (HR.out.snoc hk2 (Nat.succ_pos j) h)
      have HN := fun (h : slt l[j].key l[j + 1].key = false) => Lib.hid (upsB_no fun hu : Ups l => by have := hu.lt hj2 hk2 (by omega); rw [h] at this; cases this)
      generalize l[j] = x at *
      generalize l[j + 1] = y at *
      cases hs : slt x.key y.key with
      | true =>
        have HS2 := HS hs
        have hs2 := slt_asymm hs
        have hne := slt_ne hs
        have hs3 : ¬ y.key.toList = x.key.toList := fun e => hne (toList_inj e.symm)
        clear HS HN HR hne
        unfold slt at hs hs2
        go_wp2
        (refine wp_region_run (fun _ => True) (fun _ _ _ _ => trivial) trivial ((0, 0) :: (0, 1) :: (0, 2) :: (0, 3) :: (1, 4) :: (0, 5) :: (0, 6) :: (0, 7) :: (0, 8) :: (0, 9) :: (1, 10) :: (0, 11) :: []) (by kernel_rfl) (by kernel_rfl) rfl (fun _ _ d _ _ h => by cases d <;> exact h) ?_; intro w9 hx9; replace hO := hO.ext hx9; clear hx9; ((try clear hf); have hf := hO.facts; (try simp only [FX, Nat.zero_add, Nat.reduceAdd, and_true, true_and, List.map_cons, List.map_nil, List.cons_append, List.nil_append] at hf)); (repeat (first | (apply inRun_p _ rfl rfl rfl; focus (intro w8 K8 hK8; (repeat (first | go_skip | go_guarded | go_step)); exact hK8)) | (apply inRun_l _ rfl rfl rfl; focus (intro w8 hx8 K8 hK8; have hO := hO.ext hx8; ((try clear hf); have hf := hO.facts; (try simp only [FX, Nat.zero_add, Nat.reduceAdd, and_true, true_and, List.map_cons, List.map_nil, List.cons_append, List.nil_append] at hf)); have c0 := hcx _ hf; have c1 := hcy _ hf; (repeat (first | go_skip | go_guarded | go_step)); exact hK8)) | (apply inRun_q _ rfl; (focus (intro w8 hx8 K8 hK8; have hO := hO.ext hx8; ((try clear hf); have hf := hO.facts; (try simp only [FX, Nat.zero_add, Nat.reduceAdd, and_true, true_and, List.map_cons, List.map_nil, List.cons_append, List.nil_append] at hf)); (repeat (first | go_skip | go_guarded | go_step | fail)); (first | exact (by repeat (first | exact Ext.refl _ | assumption | refine Ext.of_drew ?_ | refine Ext.alloc ?_ _ | refine Ext.drew ?_ | refine Ext.trans ?_ (by assumption))) | exact hK8 _ (by repeat (first | exact Ext.refl _ | assumption | refine Ext.of_drew ?_ | refine Ext.alloc ?_ _ | refine Ext.drew ?_ | refine Ext.trans ?_ (by assumption)))))); (focus (exact rfl)); intro w8 hx8; replace hO := hO.ext hx8; clear hx8; ((try clear hf); have hf := hO.facts; (try simp only [FX, Nat.zero_add, Nat.reduceAdd, and_true, true_and, List.map_cons, List.map_nil, List.cons_append, List.nil_append] at hf))))))
        refine inRun_nil ?_
        go_wp2_with (first | ((first | with_reducible refine wpList_alloc_own hO ?_ | with_reducible refine wpList_drew_own hO ?_ | with_reducible refine wp_alloc_own hO ?_ | with_reducible refine wp_drew_own hO ?_ | with_reducible refine bodyPost_alloc_own hO ?_ | with_reducible refine bodyPost_drew_own hO ?_ | ((first | with_reducible apply wpList_set_own | with_reducible apply wp_set_own | with_reducible apply bodyPost_set_own); (focus (first | (with_reducible apply Own.set; (focus (with_reducible apply hO)); (repeat (first | with_reducible exact Put.here _ _ _ | with_reducible apply Put.there)); done) | (with_reducible apply Own.setRow; (focus (with_reducible apply hO)); (focus (repeat (first | with_reducible exact Put.here _ _ _ | with_reducible apply Put.there))); first | assumption | (simp; omega) | (simp; assumption)) | ((repeat' (first | with_reducible apply hO | with_reducible apply Own.set)); all_goals (repeat (first | with_reducible exact Put.here _ _ _ | with_reducible apply Put.there)); done))))); clear hO; intro w9 hO; (try dsimp only [List.set] at hO); ((try clear hf); have hf := hO.facts; (try simp only [FX, Nat.zero_add, Nat.reduceAdd, and_true, true_and, List.map_cons, List.map_nil, List.cons_append, List.nil_append] at hf))))
        all_goals first
          | exact ⟨⟨j + 2, by omega, by go_num, HS2, .inl (by omega), hO⟩, by simp [intOf]; omega⟩
          | (exfalso; simp_all; done)
      | false =>
        have HN2 := HN hs
        have hs3 : slt y.key x.key = true ∨ y.key = x.key := by
          rcases slt_total x.key y.key with h | h | h
          · rw [h] at hs; cases hs
          · exact .inr h.symm
          · exact .inl h
        clear HS HN HR
        unfold slt at hs hs3
        go_wp2
        (refine wp_region_run (fun _ => True) (fun _ _ _ _ => trivial) trivial ((0, 0) :: (0, 1) :: (0, 2) :: (0, 3) :: (1, 4) :: (0, 5) :: (0, 6) :: (0, 7) :: (0, 8) :: (0, 9) :: (1, 10) :: (0, 11) :: []) (by kernel_rfl) (by kernel_rfl) rfl (fun _ _ d _ _ h => by cases d <;> exact h) ?_; intro w9 hx9; replace hO := hO.ext hx9; clear hx9; ((try clear hf); have hf := hO.facts; (try simp only [FX, Nat.zero_add, Nat.reduceAdd, and_true, true_and, List.map_cons, List.map_nil, List.cons_append, List.nil_append] at hf)); (repeat (first | (apply inRun_p _ rfl rfl rfl; focus (intro w8 K8 hK8; (repeat (first | go_skip | go_guarded | go_step)); exact hK8)) | (apply inRun_l _ rfl rfl rfl; focus (intro w8 hx8 K8 hK8; have hO := hO.ext hx8; ((try clear hf); have hf := hO.facts; (try simp only [FX, Nat.zero_add, Nat.reduceAdd, and_true, true_and, List.map_cons, List.map_nil, List.cons_append, List.nil_append] at hf)); have c0 := hcx _ hf; have c1 := hcy _ hf; (repeat (first | go_skip | go_guarded | go_step)); exact hK8)) | (apply inRun_q _ rfl; (focus (intro w8 hx8 K8 hK8; have hO := hO.ext hx8; ((try clear hf); have hf := hO.facts; (try simp only [FX, Nat.zero_add, Nat.reduceAdd, and_true, true_and, List.map_cons, List.map_nil, List.cons_append, List.nil_append] at hf)); (repeat (first | go_skip | go_guarded | go_step | fail)); (first | exact (by repeat (first | exact Ext.refl _ | assumption | refine Ext.of_drew ?_ | refine Ext.alloc ?_ _ | refine Ext.drew ?_ | refine Ext.trans ?_ (by assumption))) | exact hK8 _ (by repeat (first | exact Ext.refl _ | assumption | refine Ext.of_drew ?_ | refine Ext.alloc ?_ _ | refine Ext.drew ?_ | refine Ext.trans ?_ (by assumption)))))); (focus (exact rfl)); intro w8 hx8; replace hO := hO.ext hx8; clear hx8; ((try clear hf); have hf := hO.facts; (try simp only [FX, Nat.zero_add, Nat.reduceAdd, and_true, true_and, List.map_cons, List.map_nil, List.cons_append, List.nil_append] at hf))))))
        refine inRun_nil ?_
        go_wp2_with (first | ((first | with_reducible refine wpList_alloc_own hO ?_ | with_reducible refine wpList_drew_own hO ?_ | with_reducible refine wp_alloc_own hO ?_ | with_reducible refine wp_drew_own hO ?_ | with_reducible refine bodyPost_alloc_own hO ?_ | with_reducible refine bodyPost_drew_own hO ?_ | ((first | with_reducible apply wpList_set_own | with_reducible apply wp_set_own | with_reducible apply bodyPost_set_own); (focus (first | (with_reducible apply Own.set; (focus (with_reducible apply hO)); (repeat (first | with_reducible exact Put.here _ _ _ | with_reducible apply Put.there)); done) | (with_reducible apply Own.setRow; (focus (with_reducible apply hO)); (focus (repeat (first | with_reducible exact Put.here _ _ _ | with_reducible apply Put.there))); first | assumption | (simp; omega) | (simp; assumption)) | ((repeat' (first | with_reducible apply hO | with_reducible apply Own.set)); all_goals (repeat (first | with_reducible exact Put.here _ _ _ | with_reducible apply Put.there)); done))))); clear hO; intro w9 hO; (try dsimp only [List.set] at hO); ((try clear hf); have hf := hO.facts; (try simp only [FX, Nat.zero_add, Nat.reduceAdd, and_true, true_and, List.map_cons, List.map_nil, List.cons_append, List.nil_append] at hf))))
        all_goals first
          | (go_ret; exact ⟨ret_bool HN2.out.symm, hO.toExt⟩)
          | (exfalso; simp_all; done)
    · have HY := Lib.hid (upsB_yes (HR.out.ups (by omega)))
      clear HR
      go_wp2_with (first | ((first | with_reducible refine wpList_alloc_own hO ?_ | with_reducible refine wpList_drew_own hO ?_ | with_reducible refine wp_alloc_own hO ?_ | with_reducible refine wp_drew_own hO ?_ | with_reducible refine bodyPost_alloc_own hO ?_ | with_reducible refine bodyPost_drew_own hO ?_ | ((first | with_reducible apply wpList_set_own | with_reducible apply wp_set_own | with_reducible apply bodyPost_set_own); (focus (first | (with_reducible apply Own.set; (focus (with_reducible apply hO)); (repeat (first | with_reducible exact Put.here _ _ _ | with_reducible apply Put.there)); done) | (with_reducible apply Own.setRow; (focus (with_reducible apply hO)); (focus (repeat (first | with_reducible exact Put.here _ _ _ | with_reducible apply Put.there))); first | assumption | (simp; omega) | (simp; assumption)) | ((repeat' (first | with_reducible apply hO | with_reducible apply Own.set)); all_goals (repeat (first | with_reducible exact Put.here _ _ _ | with_reducible apply Put.there)); done))))); clear hO; intro w9 hO; (try dsimp only [List.set] at hO); ((try clear hf); have hf := hO.facts; (try simp only [FX, Nat.zero_add, Nat.reduceAdd, and_true, true_and, List.map_cons, List.map_nil, List.cons_append, List.nil_append] at hf))))
      go_ret
      exact ⟨ret_bool HY.out.symm, hO.toExt⟩
end Go.Proofs.YtmjdgcgmlgbfjaaDoor
