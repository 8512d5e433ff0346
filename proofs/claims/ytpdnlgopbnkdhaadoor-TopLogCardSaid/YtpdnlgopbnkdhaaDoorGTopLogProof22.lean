/- Texts Log3, Log4, Log5, Lg2, Log6 of this claim, laid together. -/
import Derived.Test.YtpdnlgopbnkdhaaDoorGTopLogProof21
import Derived.Test.YtpdnlgopbnkdhaaDoorGTopLogProof10
import Derived.Test.YtpdnlgopbnkdhaaDoorGTopLogProof19
set_option linter.unusedVariables false
set_option linter.unusedSimpArgs false
namespace Go.Proofs.YtpdnlgopbnkdhaaDoor
open Go.RowKit
theorem Tryd.infoChs : (Tryd.prog.info? 44).map (fun i => (i.zero, i.size, i.bytes)) = some (some (.slice none 0 0), 1, 24) := by kernel_rfl
/-- A deed as it lies in memory. -/
abbrev DV := Option Addr × Nat × List Ch
def dv (d : DV) : Value := .slice d.1 d.2.2.length d.2.1
def DsAt (w : World) (D : List DV) : Prop := ∀ d ∈ D, ValsAt w d.1 (chs d.2.2)
def dss (D : List DV) : List (List Ch) := D.map fun d => d.2.2
theorem Own.rowImm {S : Nat → Prop} {W w : World} {l l' : List Rs} {e : TypeId} {size : Nat} {a : Option Addr} {n c : Nat} {xs : List Value} (h : Own S W w l) (hp : Pick l (Row2 e size a n c xs) l') : Own S W w (.imm (fun w => ValsAt w a xs) :: l') :=
  Own.toImm (r := Row2 e size a n c xs) (φ := fun w => ValsAt w a xs) (fun w h => h.1) (h.pick hp)
theorem Own.dsNone {S : Nat → Prop} {W w : World} {l : List Rs} (h : Own S W w l) : Own S W w (.imm (fun w => DsAt w []) :: l) := Own.toImm (r := Row2 74 3 none 0 0 []) (φ := fun w => DsAt w []) (fun _ _ d hd => by cases hd) (h.nil 74 3)
theorem Own.dsAdd {S : Nat → Prop} {W w : World} {l : List Rs} {D : List DV} {a : Option Addr} {c : Nat} {C : List Ch} (h : Own S W w (.imm (fun w => ValsAt w a (chs C)) :: .imm (fun w => DsAt w D) :: l)) : Own S W w (.imm (fun w => DsAt w (D ++ [(a, c, C)])) :: l) :=
  h.and.imp fun w ⟨h1, h2⟩ x hx => by
    rcases List.mem_append.1 hx with hx | hx
    · exact h2 x hx
    · rw [List.mem_singleton.1 hx]; exact h1
set_option maxHeartbeats 4000000 in
set_option maxRecDepth 100000 in
theorem open_does (p : Nat) (d : Dk) (frm many first : Nat) (sec : List ByteArray) (Wd : List (List Ch)) (u : Nat) (hd : d.down = false) (hm : 1 ≤ many) (hb : frm + many ≤ d.now.length) (hN : d.now.length ≤ 1000) (h96 : ∀ s ∈ d.now, s.size = 96) (hf1 : 1 ≤ first) (hf2 : first ≤ 1000000)
    (hsec : (d.now.drop frm).take many = sec) (hscan : scan first 0 sec [] [] 0 = (Wd, u)) :
    Does Tryd.prog 14 #[.pointer (some ⟨p, 0, none⟩), .int .i64 frm, .int .i64 many, .int .i64 first] [DiskR p d, .imm LibOk]
      (fun x : Nat × (Option Addr × Nat) × List DV => (.tuple #[.pointer (some ⟨x.1, 0, none⟩), .slice x.2.1.1 x.2.2.length x.2.1.2, .nilIface],
        [Var x.1 [.pointer (some ⟨p, 0, none⟩), .int .i64 frm, .int .i64 many, .int .i64 first, .int .i64 u] 108, Row2 44 1 x.2.1.1 x.2.2.length x.2.1.2 (x.2.2.map dv), .imm (fun w => DsAt w x.2.2), .pure (dss x.2.2 = Wd), DiskR p d, .imm LibOk])) := by
  obtain ⟨iC, hiC, hzC, hsC, hbC⟩ := info_parts Tryd.infoCh
  obtain ⟨iD, hiD, hzD, hsD, hbD⟩ := info_parts Tryd.infoChs
  have hl : sec.length = many := by rw [← hsec, List.length_take, List.length_drop]; omega
  have HL := fun (q nx i : Nat) (hi : i < many) => look_reads p q d frm many first nx i (sec[i]'(by omega)) hd (by
    subst hsec; rw [List.getElem_take, List.getElem_drop]; exact List.getElem?_eq_getElem (by omega)) (by
    subst hsec; rw [List.getElem_take, List.getElem_drop]; exact h96 _ (List.getElem_mem ..)) (by omega) (by omega)
  have HS := Lib.hid hscan
  have HDN := down_reads p d
  have HSC := sectors_reads p d
  rw [hd] at HDN
  clear hscan hsec h96 hd
  generalize hN2 : d.now.length = N at *
  intro S W w L0 hO
  simp only [List.cons_append, List.nil_append] at hO
  ((try clear hf); have hf := hO.facts; (try simp only [FX, Nat.zero_add, Nat.reduceAdd, and_true, true_and, List.map_cons, List.map_nil, List.cons_append, List.nil_append] at hf))
  go_enter Tryd.func14, Tryd.ntmps14
  go_wp2_with (first | (go_at_call 15; (with_reducible apply Reads.use hO (HSC); (focus (repeat (first | with_reducible exact Takes.nil _ | with_reducible apply Takes.cons | with_reducible exact Pick.here _ _ | with_reducible apply Pick.there))); clear hO; intro w9 hx9 hO; clear hx9; dsimp only; ((try clear hf); have hf := hO.facts; (try simp only [FX, Nat.zero_add, Nat.reduceAdd, and_true, true_and, List.map_cons, List.map_nil, List.cons_append, List.nil_append] at hf)))) | (go_at_call 61; (with_reducible apply Reads.use hO (HDN); (focus (repeat (first | with_reducible exact Takes.nil _ | with_reducible apply Takes.cons | with_reducible exact Pick.here _ _ | with_reducible apply Pick.there))); clear hO; intro w9 hx9 hO; clear hx9; dsimp only; ((try clear hf); have hf := hO.facts; (try simp only [FX, Nat.zero_add, Nat.reduceAdd, and_true, true_and, List.map_cons, List.map_nil, List.cons_append, List.nil_append] at hf)))) | ((first | with_reducible refine wpList_alloc_own hO ?_ | with_reducible refine wpList_drew_own hO ?_ | with_reducible refine wp_alloc_own hO ?_ | with_reducible refine wp_drew_own hO ?_ | with_reducible refine bodyPost_alloc_own hO ?_ | with_reducible refine bodyPost_drew_own hO ?_ | ((first | with_reducible apply wpList_set_own | with_reducible apply wp_set_own | with_reducible apply bodyPost_set_own); (focus (first | (with_reducible apply Own.set; (focus (with_reducible apply hO)); (repeat (first | with_reducible exact Put.here _ _ _ | with_reducible apply Put.there)); done) | (with_reducible apply Own.setRow; (focus (with_reducible apply hO)); (focus (repeat (first | with_reducible exact Put.here _ _ _ | with_reducible apply Put.there))); first | assumption | (simp; omega) | (simp; assumption)) | ((repeat' (first | with_reducible apply hO | with_reducible apply Own.set)); all_goals (repeat (first | with_reducible exact Put.here _ _ _ | with_reducible apply Put.there)); done))))); clear hO; intro w9 hO; (try dsimp only [List.set] at hO); ((try clear hf); have hf := hO.facts; (try simp only [FX, Nat.zero_add, Nat.reduceAdd, and_true, true_and, List.map_cons, List.map_nil, List.cons_append, List.nil_append] at hf))))
  all_goals try (exfalso; omega; done)
  rename World => w0
  (rename many ≤ N => hx1; clear hx1)
  (rename (((_ ∧ _) ∧ ¬ _) ∧ _) ∧ _ => hx1; clear hx1)
  obtain ⟨q, hq9⟩ := (hO.pick (r := Var _ _ 108) (by repeat (first | with_reducible exact Pick.here _ _ | with_reducible apply Pick.there))).named
  rw [← hq9] at hO ⊢
  clear hq9
  have hO9 := ((hO.dsNone).nil 44 1).nil 74 3
  clear hO
  go_loopw [12, 13, 55] (fun v12 v13 v55 wr => ∃ (i nx on oc cn cc : Nat) (oa ca : Option Addr) (D : List DV) (C : List Ch), v12 = .slice oa on oc ∧ v13 = .slice ca cn cc ∧ v55 = .int .i64 i ∧ i ≤ many ∧ D.length = on ∧ C.length = cn ∧ on ≤ i ∧ cn ≤ i ∧
    Hid (scan first i (sec.drop i) (dss D) C nx = (Wd, u)) ∧ Own S W wr ([Var q [.pointer (some ⟨p, 0, none⟩), .int .i64 frm, .int .i64 many, .int .i64 first, .int .i64 nx] 108, Row2 44 1 oa on oc (D.map dv), .imm (fun w => DsAt w D), Row2 74 3 ca cn cc (chs C), DiskR p d, .imm LibOk] ++ L0)) (fun _ _ i _ => many - (intOf i).toNat)
  case atStart => exact ⟨0, 0, 0, 0, 0, 0, none, none, [], [], rfl, rfl, rfl, by omega, rfl, rfl, by omega, by omega, Lib.hid HS.out, (by rw [show ((0 : Nat) : Int) = 0 from rfl, show ([] : List DV).map dv = [] from rfl, show chs [] = [] from rfl]; (try simp only [List.cons_append, List.nil_append]); exact hO9.cut (by repeat (first | with_reducible apply Sub.cons | with_reducible exact Pick.here _ _ | with_reducible apply Pick.there | with_reducible apply Sub.base | with_reducible exact Keeps.here _ | with_reducible apply Keeps.skip)))⟩
  case round =>
    clear hO9
    obtain ⟨i, nx, on, oc, cn, cc, oa, ca, D, C, rfl, rfl, rfl, hi, hD, hC, hon, hcn, HI, hO⟩ := hrel
    rename World => w1
    simp only [List.cons_append, List.nil_append] at hO
    ((try clear hf); have hf := hO.facts; (try simp only [FX, Nat.zero_add, Nat.reduceAdd, and_true, true_and, List.map_cons, List.map_nil, List.cons_append, List.nil_append] at hf))
    by_cases hlt : i < many
    · have hi2 : i < sec.length := by omega
      have HLi := HL q nx i hlt
      have HI2 := HI.out
      rw [List.drop_eq_getElem_cons hi2] at HI2
      clear HI
      generalize sec[i] = s at *
      cases hk : lookB (first + i) s with
      | none =>
        rw [scan_none hk] at HI2
        obtain ⟨rfl, rfl⟩ := Prod.mk.inj HI2
        rw [hk] at HLi
        unfold lookR at HLi
        dsimp only at HLi
        go_wp2_with (first | (go_at_call 62; (with_reducible apply Reads.use hO (HLi); (focus (repeat (first | with_reducible exact Takes.nil _ | with_reducible apply Takes.cons | with_reducible exact Pick.here _ _ | with_reducible apply Pick.there))); clear hO; intro w9 hx9 hO; clear hx9; dsimp only; ((try clear hf); have hf := hO.facts; (try simp only [FX, Nat.zero_add, Nat.reduceAdd, and_true, true_and, List.map_cons, List.map_nil, List.cons_append, List.nil_append] at hf)))) | ((first | with_reducible refine wpList_alloc_own hO ?_ | with_reducible refine wpList_drew_own hO ?_ | with_reducible refine wp_alloc_own hO ?_ | with_reducible refine wp_drew_own hO ?_ | with_reducible refine bodyPost_alloc_own hO ?_ | with_reducible refine bodyPost_drew_own hO ?_ | ((first | with_reducible apply wpList_set_own | with_reducible apply wp_set_own | with_reducible apply bodyPost_set_own); (focus (first | (with_reducible apply Own.set; (focus (with_reducible apply hO)); (repeat (first | with_reducible exact Put.here _ _ _ | with_reducible apply Put.there)); done) | (with_reducible apply Own.setRow; (focus (with_reducible apply hO)); (focus (repeat (first | with_reducible exact Put.here _ _ _ | with_reducible apply Put.there))); first | assumption | (simp; omega) | (simp; assumption)) | ((repeat' (first | with_reducible apply hO | with_reducible apply Own.set)); all_goals (repeat (first | with_reducible exact Put.here _ _ _ | with_reducible apply Put.there)); done))))); clear hO; intro w9 hO; (try dsimp only [List.set] at hO); ((try clear hf); have hf := hO.facts; (try simp only [FX, Nat.zero_add, Nat.reduceAdd, and_true, true_and, List.map_cons, List.map_nil, List.cons_append, List.nil_append] at hf))))
        (go_ret3; subst hD; refine ⟨(q, (oa, oc), D), rfl, ?_⟩; dsimp only; replace hO := hO.toPure (p := dss D = dss D) rfl; exact hO.give (by repeat (first | with_reducible exact Takes.nil _ | with_reducible apply Takes.cons | with_reducible exact Pick.here _ _ | with_reducible apply Pick.there)) (by repeat (first | exact Keeps.here _ | apply Keeps.skip)))
      | some bt =>
        obtain ⟨b, t⟩ := bt
        have hts := lookB_size hk
        rw [hk] at HLi
        unfold lookR at HLi
        dsimp only at HLi
        cases b with
        | true =>
          simp only [if_true] at HLi
          have HF := fun w => four_any C.length w (by omega)
          rw [hC] at HF
          by_cases ht : t = four C.length
          · rw [scan_close hk ht] at HI2
            have HI3 := Lib.hid HI2
            clear HI2
            rw [hC] at ht
            have htb : (t.toList == (four cn).toList) = true := by rw [ht]; simp
            generalize four cn = z at *
            go_wp2_with (first | (go_at_call 62; (with_reducible apply Reads.use hO (HLi); (focus (repeat (first | with_reducible exact Takes.nil _ | with_reducible apply Takes.cons | with_reducible exact Pick.here _ _ | with_reducible apply Pick.there))); clear hO; intro w9 hx9 hO; clear hx9; dsimp only; ((try clear hf); have hf := hO.facts; (try simp only [FX, Nat.zero_add, Nat.reduceAdd, and_true, true_and, List.map_cons, List.map_nil, List.cons_append, List.nil_append] at hf)))) | (go_at_call 63; (with_reducible apply Calls.mono (HF _); rintro e8 w8 ⟨rfl, hx8⟩; replace hO := hO.ext hx8; clear hx8; dsimp only; ((try clear hf); have hf := hO.facts; (try simp only [FX, Nat.zero_add, Nat.reduceAdd, and_true, true_and, List.map_cons, List.map_nil, List.cons_append, List.nil_append] at hf)))) | (at_builtin; (refine wpList_append_var hO (by repeat (first | with_reducible exact Pick.here _ _ | with_reducible apply Pick.there)) (by repeat (first | with_reducible exact Pick.here _ _ | with_reducible apply Pick.there)) rfl (.tmp 81) (.tmp 83) 33 rfl iD _ 24 Tryd.underlying33 hiD hzD hsD hbD rfl (by omega) rfl _ _ rfl (by rfl) (by repeat (first | exact ones_nil | refine ones_cons rfl ?_)) (by unfold maxLen; omega) (by omega) ?_; clear hO; intro ka9 kc9 w9 hO; ((try clear hf); have hf := hO.facts; (try simp only [FX, Nat.zero_add, Nat.reduceAdd, and_true, true_and, List.map_cons, List.map_nil, List.cons_append, List.nil_append] at hf)))) | ((first | with_reducible refine wpList_alloc_own hO ?_ | with_reducible refine wpList_drew_own hO ?_ | with_reducible refine wp_alloc_own hO ?_ | with_reducible refine wp_drew_own hO ?_ | with_reducible refine bodyPost_alloc_own hO ?_ | with_reducible refine bodyPost_drew_own hO ?_ | ((first | with_reducible apply wpList_set_own | with_reducible apply wp_set_own | with_reducible apply bodyPost_set_own); (focus (first | (with_reducible apply Own.set; (focus (with_reducible apply hO)); (repeat (first | with_reducible exact Put.here _ _ _ | with_reducible apply Put.there)); done) | (with_reducible apply Own.setRow; (focus (with_reducible apply hO)); (focus (repeat (first | with_reducible exact Put.here _ _ _ | with_reducible apply Put.there))); first | assumption | (simp; omega) | (simp; assumption)) | ((repeat' (first | with_reducible apply hO | with_reducible apply Own.set)); all_goals (repeat (first | with_reducible exact Put.here _ _ _ | with_reducible apply Put.there)); done))))); clear hO; intro w9 hO; (try dsimp only [List.set] at hO); ((try clear hf); have hf := hO.facts; (try simp only [FX, Nat.zero_add, Nat.reduceAdd, and_true, true_and, List.map_cons, List.map_nil, List.cons_append, List.nil_append] at hf))))
            have HDV := Lib.hid (show (D ++ [(ca, cc, C)]).map dv = D.map dv ++ [.slice ca cn cc] by rw [List.map_append, ← hC]; rfl)
            have h1 := (hO.rowImm (a := ca) (n := cn) (c := cc) (xs := chs C) (by repeat (first | with_reducible exact Pick.here _ _ | with_reducible apply Pick.there))).take (rs := [.imm (fun w => ValsAt w ca (chs C)), .imm (fun w => DsAt w D)]) (by repeat (first | with_reducible exact Takes.nil _ | with_reducible apply Takes.cons | with_reducible exact Pick.here _ _ | with_reducible apply Pick.there))
            simp only [List.cons_append, List.nil_append, List.append_eq] at h1
            have h2 := (h1.dsAdd (c := cc)).nil 74 3
            refine ⟨⟨i + 1, i + 1, on + 1, kc9, 0, 0, ka9, none, D ++ [(ca, cc, C)], [], rfl, rfl, by go_num, by omega, by simp [hD], rfl, by omega, by omega, Lib.hid (by rw [← HI3.out]; simp [dss]), ?_⟩, by simp [intOf]; omega⟩
            rw [HDV.out, show ((i + 1 : Nat) : Int) = (i : Int) + 1 from by omega, show chs [] = [] from rfl]
            (try simp only [List.cons_append, List.nil_append])
            exact h2.cut (by repeat (first | with_reducible apply Sub.cons | with_reducible exact Pick.here _ _ | with_reducible apply Pick.there | with_reducible apply Sub.base | with_reducible exact Keeps.here _ | with_reducible apply Keeps.skip))
          · rw [scan_bad hk ht] at HI2
            obtain ⟨rfl, rfl⟩ := Prod.mk.inj HI2
            rw [hC] at ht
            have htb : (t.toList == (four cn).toList) = false := by simpa using fun e => ht (toList_inj e)
            generalize four cn = z at *
            go_wp2_with (first | (go_at_call 62; (with_reducible apply Reads.use hO (HLi); (focus (repeat (first | with_reducible exact Takes.nil _ | with_reducible apply Takes.cons | with_reducible exact Pick.here _ _ | with_reducible apply Pick.there))); clear hO; intro w9 hx9 hO; clear hx9; dsimp only; ((try clear hf); have hf := hO.facts; (try simp only [FX, Nat.zero_add, Nat.reduceAdd, and_true, true_and, List.map_cons, List.map_nil, List.cons_append, List.nil_append] at hf)))) | (go_at_call 63; (with_reducible apply Calls.mono (HF _); rintro e8 w8 ⟨rfl, hx8⟩; replace hO := hO.ext hx8; clear hx8; dsimp only; ((try clear hf); have hf := hO.facts; (try simp only [FX, Nat.zero_add, Nat.reduceAdd, and_true, true_and, List.map_cons, List.map_nil, List.cons_append, List.nil_append] at hf)))) | ((first | with_reducible refine wpList_alloc_own hO ?_ | with_reducible refine wpList_drew_own hO ?_ | with_reducible refine wp_alloc_own hO ?_ | with_reducible refine wp_drew_own hO ?_ | with_reducible refine bodyPost_alloc_own hO ?_ | with_reducible refine bodyPost_drew_own hO ?_ | ((first | with_reducible apply wpList_set_own | with_reducible apply wp_set_own | with_reducible apply bodyPost_set_own); (focus (first | (with_reducible apply Own.set; (focus (with_reducible apply hO)); (repeat (first | with_reducible exact Put.here _ _ _ | with_reducible apply Put.there)); done) | (with_reducible apply Own.setRow; (focus (with_reducible apply hO)); (focus (repeat (first | with_reducible exact Put.here _ _ _ | with_reducible apply Put.there))); first | assumption | (simp; omega) | (simp; assumption)) | ((repeat' (first | with_reducible apply hO | with_reducible apply Own.set)); all_goals (repeat (first | with_reducible exact Put.here _ _ _ | with_reducible apply Put.there)); done))))); clear hO; intro w9 hO; (try dsimp only [List.set] at hO); ((try clear hf); have hf := hO.facts; (try simp only [FX, Nat.zero_add, Nat.reduceAdd, and_true, true_and, List.map_cons, List.map_nil, List.cons_append, List.nil_append] at hf))))
            (go_ret3; subst hD; refine ⟨(q, (oa, oc), D), rfl, ?_⟩; dsimp only; replace hO := hO.toPure (p := dss D = dss D) rfl; exact hO.give (by repeat (first | with_reducible exact Takes.nil _ | with_reducible apply Takes.cons | with_reducible exact Pick.here _ _ | with_reducible apply Pick.there)) (by repeat (first | exact Keeps.here _ | apply Keeps.skip)))
        | false =>
          simp only [Bool.false_eq_true, if_false] at HLi
          cases hp : parseO t with
          | none =>
            rw [scan_unread hk hp] at HI2
            obtain ⟨rfl, rfl⟩ := Prod.mk.inj HI2
            have HP := fun w h => parse_none (s := t) w h (by omega) hp
            unfold zCh at HP
            go_wp2_with (first | (go_at_call 62; (with_reducible apply Reads.use hO (HLi); (focus (repeat (first | with_reducible exact Takes.nil _ | with_reducible apply Takes.cons | with_reducible exact Pick.here _ _ | with_reducible apply Pick.there))); clear hO; intro w9 hx9 hO; clear hx9; dsimp only; ((try clear hf); have hf := hO.facts; (try simp only [FX, Nat.zero_add, Nat.reduceAdd, and_true, true_and, List.map_cons, List.map_nil, List.cons_append, List.nil_append] at hf)))) | (go_at_call 64; (with_reducible apply Calls.mono (HP _ (Own.immOf (φ := LibOk) hO (by repeat (first | with_reducible exact Pick.here _ _ | with_reducible apply Pick.there)))); rintro e8 w8 ⟨rfl, hx8⟩; replace hO := hO.ext hx8; clear hx8; dsimp only; ((try clear hf); have hf := hO.facts; (try simp only [FX, Nat.zero_add, Nat.reduceAdd, and_true, true_and, List.map_cons, List.map_nil, List.cons_append, List.nil_append] at hf)))) | ((first | with_reducible refine wpList_alloc_own hO ?_ | with_reducible refine wpList_drew_own hO ?_ | with_reducible refine wp_alloc_own hO ?_ | with_reducible refine wp_drew_own hO ?_ | with_reducible refine bodyPost_alloc_own hO ?_ | with_reducible refine bodyPost_drew_own hO ?_ | ((first | with_reducible apply wpList_set_own | with_reducible apply wp_set_own | with_reducible apply bodyPost_set_own); (focus (first | (with_reducible apply Own.set; (focus (with_reducible apply hO)); (repeat (first | with_reducible exact Put.here _ _ _ | with_reducible apply Put.there)); done) | (with_reducible apply Own.setRow; (focus (with_reducible apply hO)); (focus (repeat (first | with_reducible exact Put.here _ _ _ | with_reducible apply Put.there))); first | assumption | (simp; omega) | (simp; assumption)) | ((repeat' (first | with_reducible apply hO | with_reducible apply Own.set)); all_goals (repeat (first | with_reducible exact Put.here _ _ _ | with_reducible apply Put.there)); done))))); clear hO; intro w9 hO; (try dsimp only [List.set] at hO); ((try clear hf); have hf := hO.facts; (try simp only [FX, Nat.zero_add, Nat.reduceAdd, and_true, true_and, List.map_cons, List.map_nil, List.cons_append, List.nil_append] at hf))))
            (go_ret3; subst hD; refine ⟨(q, (oa, oc), D), rfl, ?_⟩; dsimp only; replace hO := hO.toPure (p := dss D = dss D) rfl; exact hO.give (by repeat (first | with_reducible exact Takes.nil _ | with_reducible apply Takes.cons | with_reducible exact Pick.here _ _ | with_reducible apply Pick.there)) (by repeat (first | exact Keeps.here _ | apply Keeps.skip)))
          | some c =>
            rw [scan_open hk hp] at HI2
            have HI3 := Lib.hid HI2
            clear HI2
            have HP := fun w h => parse_some (s := t) w h (by omega) hp
            unfold Ch.v at HP
            go_wp2_with (first | (go_at_call 62; (with_reducible apply Reads.use hO (HLi); (focus (repeat (first | with_reducible exact Takes.nil _ | with_reducible apply Takes.cons | with_reducible exact Pick.here _ _ | with_reducible apply Pick.there))); clear hO; intro w9 hx9 hO; clear hx9; dsimp only; ((try clear hf); have hf := hO.facts; (try simp only [FX, Nat.zero_add, Nat.reduceAdd, and_true, true_and, List.map_cons, List.map_nil, List.cons_append, List.nil_append] at hf)))) | (go_at_call 64; (with_reducible apply Calls.mono (HP _ (Own.immOf (φ := LibOk) hO (by repeat (first | with_reducible exact Pick.here _ _ | with_reducible apply Pick.there)))); rintro e8 w8 ⟨rfl, hx8⟩; replace hO := hO.ext hx8; clear hx8; dsimp only; ((try clear hf); have hf := hO.facts; (try simp only [FX, Nat.zero_add, Nat.reduceAdd, and_true, true_and, List.map_cons, List.map_nil, List.cons_append, List.nil_append] at hf)))) | (at_builtin; (refine wpList_append_var hO (by repeat (first | with_reducible exact Pick.here _ _ | with_reducible apply Pick.there)) (by repeat (first | with_reducible exact Pick.here _ _ | with_reducible apply Pick.there)) rfl (.tmp 96) (.tmp 98) 44 rfl iC _ 40 Tryd.underlying44 hiC hzC hsC hbC rfl (by omega) rfl _ _ rfl (by rfl) (by repeat (first | exact ones_nil | refine ones_cons rfl ?_)) (by unfold maxLen; omega) (by omega) ?_; clear hO; intro ka9 kc9 w9 hO; ((try clear hf); have hf := hO.facts; (try simp only [FX, Nat.zero_add, Nat.reduceAdd, and_true, true_and, List.map_cons, List.map_nil, List.cons_append, List.nil_append] at hf)))) | ((first | with_reducible refine wpList_alloc_own hO ?_ | with_reducible refine wpList_drew_own hO ?_ | with_reducible refine wp_alloc_own hO ?_ | with_reducible refine wp_drew_own hO ?_ | with_reducible refine bodyPost_alloc_own hO ?_ | with_reducible refine bodyPost_drew_own hO ?_ | ((first | with_reducible apply wpList_set_own | with_reducible apply wp_set_own | with_reducible apply bodyPost_set_own); (focus (first | (with_reducible apply Own.set; (focus (with_reducible apply hO)); (repeat (first | with_reducible exact Put.here _ _ _ | with_reducible apply Put.there)); done) | (with_reducible apply Own.setRow; (focus (with_reducible apply hO)); (focus (repeat (first | with_reducible exact Put.here _ _ _ | with_reducible apply Put.there))); first | assumption | (simp; omega) | (simp; assumption)) | ((repeat' (first | with_reducible apply hO | with_reducible apply Own.set)); all_goals (repeat (first | with_reducible exact Put.here _ _ _ | with_reducible apply Put.there)); done))))); clear hO; intro w9 hO; (try dsimp only [List.set] at hO); ((try clear hf); have hf := hO.facts; (try simp only [FX, Nat.zero_add, Nat.reduceAdd, and_true, true_and, List.map_cons, List.map_nil, List.cons_append, List.nil_append] at hf))))
            refine ⟨⟨i + 1, nx, on, oc, cn + 1, kc9, oa, ka9, D, C ++ [c], rfl, rfl, by go_num, by omega, hD, by simp [hC], by omega, by omega, Lib.hid HI3.out, ?_⟩, by simp [intOf]; omega⟩
            rw [chs_append, chs_one1]; unfold Ch.cells
            (try simp only [List.cons_append, List.nil_append])
            exact hO.cut (by repeat (first | with_reducible apply Sub.cons | with_reducible exact Pick.here _ _ | with_reducible apply Pick.there | with_reducible apply Sub.base | with_reducible exact Keeps.here _ | with_reducible apply Keeps.skip))
    · have HI2 := HI.out
      rw [List.drop_of_length_le (by omega), scan] at HI2
      clear HI
      obtain ⟨rfl, rfl⟩ := Prod.mk.inj HI2
      go_wp2_with (first | ((first | with_reducible refine wpList_alloc_own hO ?_ | with_reducible refine wpList_drew_own hO ?_ | with_reducible refine wp_alloc_own hO ?_ | with_reducible refine wp_drew_own hO ?_ | with_reducible refine bodyPost_alloc_own hO ?_ | with_reducible refine bodyPost_drew_own hO ?_ | ((first | with_reducible apply wpList_set_own | with_reducible apply wp_set_own | with_reducible apply bodyPost_set_own); (focus (first | (with_reducible apply Own.set; (focus (with_reducible apply hO)); (repeat (first | with_reducible exact Put.here _ _ _ | with_reducible apply Put.there)); done) | (with_reducible apply Own.setRow; (focus (with_reducible apply hO)); (focus (repeat (first | with_reducible exact Put.here _ _ _ | with_reducible apply Put.there))); first | assumption | (simp; omega) | (simp; assumption)) | ((repeat' (first | with_reducible apply hO | with_reducible apply Own.set)); all_goals (repeat (first | with_reducible exact Put.here _ _ _ | with_reducible apply Put.there)); done))))); clear hO; intro w9 hO; (try dsimp only [List.set] at hO); ((try clear hf); have hf := hO.facts; (try simp only [FX, Nat.zero_add, Nat.reduceAdd, and_true, true_and, List.map_cons, List.map_nil, List.cons_append, List.nil_append] at hf))))
      (go_ret3; subst hD; refine ⟨(q, (oa, oc), D), rfl, ?_⟩; dsimp only; replace hO := hO.toPure (p := dss D = dss D) rfl; exact hO.give (by repeat (first | with_reducible exact Takes.nil _ | with_reducible apply Takes.cons | with_reducible exact Pick.here _ _ | with_reducible apply Pick.there)) (by repeat (first | exact Keeps.here _ | apply Keeps.skip)))
set_option maxHeartbeats 1000000 in
set_option maxRecDepth 100000 in
theorem open_bad (p : Nat) (d : Dk) (frm many first : Int) (hb : frm < 0 ∨ many < 1 ∨ (d.now.length : Int) < many ∨ (d.now.length : Int) - many < frm ∨ first < 1) (hN : d.now.length ≤ 1000) :
    Does Tryd.prog 14 #[.pointer (some ⟨p, 0, none⟩), .int .i64 frm, .int .i64 many, .int .i64 first] [DiskR p d]
      (fun _ : Unit => (.tuple #[.pointer none, .slice none 0 0, errV 1], [DiskR p d])) := by
  have HSC := sectors_reads p d
  generalize d.now.length = N at *
  rw [show errV 1 = .iface 97 (.int .i64 1) from rfl]
  intro S W w L0 hO; simp only [List.cons_append, List.nil_append] at hO
  ((try clear hf); have hf := hO.facts; (try simp only [FX, Nat.zero_add, Nat.reduceAdd, and_true, true_and, List.map_cons, List.map_nil, List.cons_append, List.nil_append] at hf))
  go_enter Tryd.func14, Tryd.ntmps14
  go_wp2_with (first | (go_at_call 15; (with_reducible apply Reads.use hO (HSC); (focus (repeat (first | with_reducible exact Takes.nil _ | with_reducible apply Takes.cons | with_reducible exact Pick.here _ _ | with_reducible apply Pick.there))); clear hO; intro w9 hx9 hO; clear hx9; dsimp only; ((try clear hf); have hf := hO.facts; (try simp only [FX, Nat.zero_add, Nat.reduceAdd, and_true, true_and, List.map_cons, List.map_nil, List.cons_append, List.nil_append] at hf)))) | ((first | with_reducible refine wpList_alloc_own hO ?_ | with_reducible refine wpList_drew_own hO ?_ | with_reducible refine wp_alloc_own hO ?_ | with_reducible refine wp_drew_own hO ?_ | with_reducible refine bodyPost_alloc_own hO ?_ | with_reducible refine bodyPost_drew_own hO ?_ | ((first | with_reducible apply wpList_set_own | with_reducible apply wp_set_own | with_reducible apply bodyPost_set_own); (focus (first | (with_reducible apply Own.set; (focus (with_reducible apply hO)); (repeat (first | with_reducible exact Put.here _ _ _ | with_reducible apply Put.there)); done) | (with_reducible apply Own.setRow; (focus (with_reducible apply hO)); (focus (repeat (first | with_reducible exact Put.here _ _ _ | with_reducible apply Put.there))); first | assumption | (simp; omega) | (simp; assumption)) | ((repeat' (first | with_reducible apply hO | with_reducible apply Own.set)); all_goals (repeat (first | with_reducible exact Put.here _ _ _ | with_reducible apply Put.there)); done))))); clear hO; intro w9 hO; (try dsimp only [List.set] at hO); ((try clear hf); have hf := hO.facts; (try simp only [FX, Nat.zero_add, Nat.reduceAdd, and_true, true_and, List.map_cons, List.map_nil, List.cons_append, List.nil_append] at hf))))
  all_goals first | (exfalso; omega; done) | (go_ret3; exact ⟨(), rfl, hO⟩) | skip

end Go.Proofs.YtpdnlgopbnkdhaaDoor
namespace Go.Proofs.YtpdnlgopbnkdhaaDoor
open Go.RowKit
theorem lookB_if {n : Nat} {s : ByteArray} (hs : s.size = 96) : lookB n s = if s.extract 1 5 = four n ∧ ((s[0]'(by omega)).toNat = 111 ∨ (s[0]'(by omega)).toNat = 99) ∧ (s[5]'(by omega)).toNat ≤ 90 then some ((s[0]'(by omega)).toNat == 99, s.extract 6 (6 + (s[5]'(by omega)).toNat)) else none := by
  unfold lookB
  rw [dif_pos (by omega)]
  have e : ∀ (x : UInt8) (k : Nat) (hk : k < 256), (x = UInt8.ofNat k) = (x.toNat = k) := fun x k hk => propext ⟨fun h => by rw [h, UInt8.toNat_ofNat']; omega, fun h => UInt8.toNat_inj.1 (by rw [h, UInt8.toNat_ofNat']; omega)⟩
  have e1 := e (s[0]'(by omega)) 111 (by omega)
  have e2 := e (s[0]'(by omega)) 99 (by omega)
  have e3 : ((s[0]'(by omega)) == (99 : UInt8)) = ((s[0]'(by omega)).toNat == 99) := by
    rw [Bool.eq_iff_iff, beq_iff_eq, beq_iff_eq]; exact Iff.of_eq e2
  rw [e3]
  congr 1
  rw [show (111 : UInt8) = UInt8.ofNat 111 from rfl, show (99 : UInt8) = UInt8.ofNat 99 from rfl, e1, e2]
theorem eq_or {z : ByteArray} (t : ByteArray) : (t = z ∧ (t.toList == z.toList) = true) ∨ (t ≠ z ∧ (t.toList == z.toList) = false) := by
  by_cases h : t = z
  · exact .inl ⟨h, by rw [h]; simp⟩
  · exact .inr ⟨h, by simpa using fun e => h (toList_inj e)⟩
set_option maxHeartbeats 4000000 in
set_option maxRecDepth 100000 in
theorem closed_does (a : Option Addr) (n c0 first : Nat) (sec : List ByteArray) (Wd : List (List Ch)) (u : Nat) (hn : sec.length = n) (hN : n ≤ 1000) (h96 : ∀ s ∈ sec, s.size = 96) (hf2 : first ≤ 1000000)
    (hscan : scan first 0 sec [] [] 0 = (Wd, u)) {φ : World → Prop} (hφ : ∀ w, φ w → ValsAt w a (sec.map .string)) :
    Does Tryd.prog 18 #[.slice a n c0, .int .i64 first] [.imm φ]
      (fun x : (Option Addr × Nat) × List DV => (.tuple #[.slice x.1.1 x.2.length x.1.2, .int .i64 u],
        [Row2 44 1 x.1.1 x.2.length x.1.2 (x.2.map dv), .imm (fun w => DsAt w x.2), .pure (dss x.2 = Wd), .imm φ])) := by
  obtain ⟨iC, hiC, hzC, hsC, hbC⟩ := info_parts Tryd.infoCh
  obtain ⟨iD, hiD, hzD, hsD, hbD⟩ := info_parts Tryd.infoChs
  have HS := Lib.hid hscan
  have H96 := Lib.hid h96
  clear hscan h96
  intro S W w L0 hO
  simp only [List.cons_append, List.nil_append] at hO
  ((try clear hf); have hf := hO.facts; (try simp only [FX, Nat.zero_add, Nat.reduceAdd, and_true, true_and, List.map_cons, List.map_nil, List.cons_append, List.nil_append] at hf))
  go_enter Tryd.func18, Tryd.ntmps18
  go_wp2_with (first | ((first | with_reducible refine wpList_alloc_own hO ?_ | with_reducible refine wpList_drew_own hO ?_ | with_reducible refine wp_alloc_own hO ?_ | with_reducible refine wp_drew_own hO ?_ | with_reducible refine bodyPost_alloc_own hO ?_ | with_reducible refine bodyPost_drew_own hO ?_ | ((first | with_reducible apply wpList_set_own | with_reducible apply wp_set_own | with_reducible apply bodyPost_set_own); (focus (first | (with_reducible apply Own.set; (focus (with_reducible apply hO)); (repeat (first | with_reducible exact Put.here _ _ _ | with_reducible apply Put.there)); done) | (with_reducible apply Own.setRow; (focus (with_reducible apply hO)); (focus (repeat (first | with_reducible exact Put.here _ _ _ | with_reducible apply Put.there))); first | assumption | (simp; omega) | (simp; assumption)) | ((repeat' (first | with_reducible apply hO | with_reducible apply Own.set)); all_goals (repeat (first | with_reducible exact Put.here _ _ _ | with_reducible apply Put.there)); done))))); clear hO; intro w9 hO; (try dsimp only [List.set] at hO); ((try clear hf); have hf := hO.facts; (try simp only [FX, Nat.zero_add, Nat.reduceAdd, and_true, true_and, List.map_cons, List.map_nil, List.cons_append, List.nil_append] at hf))))
  rename World => w0
  have hO9 := ((hO.dsNone).nil 44 1).nil 74 3
  clear hO
  go_loopw [6, 7, 8, 9] (fun v6 v7 v8 v9 wr => ∃ (i nx on oc cn cc : Nat) (oa ca : Option Addr) (D : List DV) (C : List Ch), v6 = .slice oa on oc ∧ v7 = .slice ca cn cc ∧ v8 = .int .i64 nx ∧ v9 = .int .i64 i ∧ i ≤ n ∧ D.length = on ∧ C.length = cn ∧ on ≤ i ∧ cn ≤ i ∧
    Hid (scan first i (sec.drop i) (dss D) C nx = (Wd, u)) ∧ Own S W wr ([Row2 44 1 oa on oc (D.map dv), .imm (fun w => DsAt w D), Row2 74 3 ca cn cc (chs C), .imm φ] ++ L0)) (fun _ _ _ i _ => n - (intOf i).toNat)
  case atStart => exact ⟨0, 0, 0, 0, 0, 0, none, none, [], [], rfl, rfl, rfl, rfl, by omega, rfl, rfl, by omega, by omega, Lib.hid HS.out, (by rw [show ([] : List DV).map dv = [] from rfl, show chs [] = [] from rfl]; (try simp only [List.cons_append, List.nil_append]); exact hO9.cut (by repeat (first | with_reducible apply Sub.cons | with_reducible exact Pick.here _ _ | with_reducible apply Pick.there | with_reducible apply Sub.base | with_reducible exact Keeps.here _ | with_reducible apply Keeps.skip)))⟩
  case round =>
    clear hO9
    obtain ⟨i, nx, on, oc, cn, cc, oa, ca, D, C, rfl, rfl, rfl, rfl, hi, hD, hC, hon, hcn, HI, hO⟩ := hrel
    rename World => w1
    simp only [List.cons_append, List.nil_append] at hO
    ((try clear hf); have hf := hO.facts; (try simp only [FX, Nat.zero_add, Nat.reduceAdd, and_true, true_and, List.map_cons, List.map_nil, List.cons_append, List.nil_append] at hf))
    by_cases hlt : i < n
    · have hi2 : i < sec.length := by omega
      have hs := H96.out _ (List.getElem_mem hi2)
      have hci : (sec.map Value.string)[i]? = some (.string sec[i]) := by rw [List.getElem?_map, List.getElem?_eq_getElem hi2]; rfl
      obtain ⟨b, off, rfl⟩ := ValsAt.some (hφ _ (hO.immOf (φ := φ) (by repeat (first | with_reducible exact Pick.here _ _ | with_reducible apply Pick.there)))) hci
      have hcell := ValsAt.get (hφ _ (hO.immOf (φ := φ) (by repeat (first | with_reducible exact Pick.here _ _ | with_reducible apply Pick.there)))) hci
      have HI2 := HI.out
      rw [List.drop_eq_getElem_cons hi2] at HI2
      clear HI hci
      generalize sec[i] = s at *
      have h0b := UInt8.toNat_lt (s[0]'(by omega))
      have h5b := UInt8.toNat_lt (s[5]'(by omega))
      have hif := lookB_if (n := first + i) hs
      have HG := fun w => rfour_any (first + i) w (by omega)
      rw [show ((first + i : Nat) : Int) = (first : Int) + i from by omega] at HG
      have HF := fun w => rfour_any C.length w (by omega)
      rw [hC] at HF
      rcases eq_or (z := four (first + i)) (s.extract 1 5) with ⟨hA, hA2⟩ | ⟨hA, hA2⟩
      · by_cases hN5 : (s[5]'(by omega)).toNat ≤ 90
        · by_cases hK : (s[0]'(by omega)).toNat = 99
          · rw [if_pos ⟨hA, .inr hK, hN5⟩, show ((s[0]'(by omega)).toNat == 99) = true from by rw [hK]; rfl] at hif
            have hts : (s.extract 6 (6 + (s[5]'(by omega)).toNat)).size ≤ 90 := lookB_size hif
            rcases eq_or (z := four C.length) (s.extract 6 (6 + (s[5]'(by omega)).toNat)) with ⟨ht, ht2⟩ | ⟨ht, ht2⟩
            · rw [scan_close hif ht] at HI2
              have HI3 := Lib.hid HI2
              clear HI2 hif ht hA
              rw [hC] at ht2
              generalize four (first + i) = y at *
              generalize four cn = z at *
              (go_wp2_with (first | ((go_at_call 65; (with_reducible apply Calls.mono (HG _); rintro e8 w8 ⟨rfl, hx8⟩; replace hO := hO.ext hx8; clear hx8; dsimp only; ((try clear hf); have hf := hO.facts; (try simp only [FX, Nat.zero_add, Nat.reduceAdd, and_true, true_and, List.map_cons, List.map_nil, List.cons_append, List.nil_append] at hf))))) | ((first | with_reducible refine wpList_alloc_own hO ?_ | with_reducible refine wpList_drew_own hO ?_ | with_reducible refine wp_alloc_own hO ?_ | with_reducible refine wp_drew_own hO ?_ | with_reducible refine bodyPost_alloc_own hO ?_ | with_reducible refine bodyPost_drew_own hO ?_ | ((first | with_reducible apply wpList_set_own | with_reducible apply wp_set_own | with_reducible apply bodyPost_set_own); (focus (first | (with_reducible apply Own.set; (focus (with_reducible apply hO)); (repeat (first | with_reducible exact Put.here _ _ _ | with_reducible apply Put.there)); done) | (with_reducible apply Own.setRow; (focus (with_reducible apply hO)); (focus (repeat (first | with_reducible exact Put.here _ _ _ | with_reducible apply Put.there))); first | assumption | (simp; omega) | (simp; assumption)) | ((repeat' (first | with_reducible apply hO | with_reducible apply Own.set)); all_goals (repeat (first | with_reducible exact Put.here _ _ _ | with_reducible apply Put.there)); done))))); clear hO; intro w9 hO; (try dsimp only [List.set] at hO); ((try clear hf); have hf := hO.facts; (try simp only [FX, Nat.zero_add, Nat.reduceAdd, and_true, true_and, List.map_cons, List.map_nil, List.cons_append, List.nil_append] at hf)))); (refine wp_region_run (fun _ => True) (fun _ _ _ _ => trivial) trivial ((0, 0) :: (0, 1) :: (0, 2) :: (0, 3) :: (0, 4) :: (3, 5) :: (0, 6) :: (0, 7) :: (0, 8) :: (0, 9) :: (0, 10) :: []) (by kernel_rfl) (by kernel_rfl) rfl (fun _ _ d _ _ h => by cases d <;> exact h) ?_; intro w9 hx9; replace hO := hO.ext hx9; clear hx9; ((try clear hf); have hf := hO.facts; (try simp only [FX, Nat.zero_add, Nat.reduceAdd, and_true, true_and, List.map_cons, List.map_nil, List.cons_append, List.nil_append] at hf)); (repeat (first | (apply inRun_p _ rfl rfl rfl; focus (intro w8 K8 hK8; (repeat (first | go_skip | go_guarded | go_step)); exact hK8)) | (apply inRun_l _ rfl rfl rfl; focus (intro w8 hx8 K8 hK8; have hO := hO.ext hx8; ((try clear hf); have hf := hO.facts; (try simp only [FX, Nat.zero_add, Nat.reduceAdd, and_true, true_and, List.map_cons, List.map_nil, List.cons_append, List.nil_append] at hf)); skip; (repeat (first | go_skip | go_guarded | go_step)); exact hK8)) | (apply inRun_q _ rfl; (focus (intro w8 hx8 K8 hK8; have hO := hO.ext hx8; ((try clear hf); have hf := hO.facts; (try simp only [FX, Nat.zero_add, Nat.reduceAdd, and_true, true_and, List.map_cons, List.map_nil, List.cons_append, List.nil_append] at hf)); (repeat (first | go_skip | go_guarded | go_step | (go_at_call 65; (with_reducible refine Calls.mono (HG _) ?_; rintro e7 w7 ⟨rfl, hx7⟩; dsimp only)))); (first | exact (by repeat (first | exact Ext.refl _ | assumption | refine Ext.of_drew ?_ | refine Ext.alloc ?_ _ | refine Ext.drew ?_ | refine Ext.trans ?_ (by assumption))) | exact hK8 _ (by repeat (first | exact Ext.refl _ | assumption | refine Ext.of_drew ?_ | refine Ext.alloc ?_ _ | refine Ext.drew ?_ | refine Ext.trans ?_ (by assumption)))))); (focus (exact rfl)); intro w8 hx8; replace hO := hO.ext hx8; clear hx8; ((try clear hf); have hf := hO.facts; (try simp only [FX, Nat.zero_add, Nat.reduceAdd, and_true, true_and, List.map_cons, List.map_nil, List.cons_append, List.nil_append] at hf)))))); refine inRun_nil ?_)
              go_wp2_with (first | (go_at_call 65; (with_reducible apply Calls.mono (HF _); rintro e8 w8 ⟨rfl, hx8⟩; replace hO := hO.ext hx8; clear hx8; dsimp only; ((try clear hf); have hf := hO.facts; (try simp only [FX, Nat.zero_add, Nat.reduceAdd, and_true, true_and, List.map_cons, List.map_nil, List.cons_append, List.nil_append] at hf)))) | (at_builtin; (refine wpList_append_var hO (by repeat (first | with_reducible exact Pick.here _ _ | with_reducible apply Pick.there)) (by repeat (first | with_reducible exact Pick.here _ _ | with_reducible apply Pick.there)) rfl (.tmp 53) (.tmp 55) 33 rfl iD _ 24 Tryd.underlying33 hiD hzD hsD hbD rfl (by omega) rfl _ _ rfl (by rfl) (by repeat (first | exact ones_nil | refine ones_cons rfl ?_)) (by unfold maxLen; omega) (by omega) ?_; clear hO; intro ka9 kc9 w9 hO; ((try clear hf); have hf := hO.facts; (try simp only [FX, Nat.zero_add, Nat.reduceAdd, and_true, true_and, List.map_cons, List.map_nil, List.cons_append, List.nil_append] at hf)))) | ((first | with_reducible refine wpList_alloc_own hO ?_ | with_reducible refine wpList_drew_own hO ?_ | with_reducible refine wp_alloc_own hO ?_ | with_reducible refine wp_drew_own hO ?_ | with_reducible refine bodyPost_alloc_own hO ?_ | with_reducible refine bodyPost_drew_own hO ?_ | ((first | with_reducible apply wpList_set_own | with_reducible apply wp_set_own | with_reducible apply bodyPost_set_own); (focus (first | (with_reducible apply Own.set; (focus (with_reducible apply hO)); (repeat (first | with_reducible exact Put.here _ _ _ | with_reducible apply Put.there)); done) | (with_reducible apply Own.setRow; (focus (with_reducible apply hO)); (focus (repeat (first | with_reducible exact Put.here _ _ _ | with_reducible apply Put.there))); first | assumption | (simp; omega) | (simp; assumption)) | ((repeat' (first | with_reducible apply hO | with_reducible apply Own.set)); all_goals (repeat (first | with_reducible exact Put.here _ _ _ | with_reducible apply Put.there)); done))))); clear hO; intro w9 hO; (try dsimp only [List.set] at hO); ((try clear hf); have hf := hO.facts; (try simp only [FX, Nat.zero_add, Nat.reduceAdd, and_true, true_and, List.map_cons, List.map_nil, List.cons_append, List.nil_append] at hf))))
              have HDV := Lib.hid (show (D ++ [(ca, cc, C)]).map dv = D.map dv ++ [.slice ca cn cc] by rw [List.map_append, ← hC]; rfl)
              have h1 := (hO.rowImm (a := ca) (n := cn) (c := cc) (xs := chs C) (by repeat (first | with_reducible exact Pick.here _ _ | with_reducible apply Pick.there))).take (rs := [.imm (fun w => ValsAt w ca (chs C)), .imm (fun w => DsAt w D)]) (by repeat (first | with_reducible exact Takes.nil _ | with_reducible apply Takes.cons | with_reducible exact Pick.here _ _ | with_reducible apply Pick.there))
              simp only [List.cons_append, List.nil_append, List.append_eq] at h1
              have h2 := (h1.dsAdd (c := cc)).nil 74 3
              refine ⟨⟨i + 1, i + 1, on + 1, kc9, 0, 0, ka9, none, D ++ [(ca, cc, C)], [], rfl, rfl, by go_num, by go_num, by omega, by simp [hD], rfl, by omega, by omega, Lib.hid (by rw [← HI3.out]; simp [dss]), ?_⟩, by simp [intOf]; omega⟩
              rw [HDV.out, show chs [] = [] from rfl]
              (try simp only [List.cons_append, List.nil_append])
              exact h2.cut (by repeat (first | with_reducible apply Sub.cons | with_reducible exact Pick.here _ _ | with_reducible apply Pick.there | with_reducible apply Sub.base | with_reducible exact Keeps.here _ | with_reducible apply Keeps.skip))
            · rw [scan_bad hif ht] at HI2
              obtain ⟨rfl, rfl⟩ := Prod.mk.inj HI2
              clear hif ht hA
              rw [hC] at ht2
              generalize four (first + i) = y at *
              generalize four cn = z at *
              (go_wp2_with (first | ((go_at_call 65; (with_reducible apply Calls.mono (HG _); rintro e8 w8 ⟨rfl, hx8⟩; replace hO := hO.ext hx8; clear hx8; dsimp only; ((try clear hf); have hf := hO.facts; (try simp only [FX, Nat.zero_add, Nat.reduceAdd, and_true, true_and, List.map_cons, List.map_nil, List.cons_append, List.nil_append] at hf))))) | ((first | with_reducible refine wpList_alloc_own hO ?_ | with_reducible refine wpList_drew_own hO ?_ | with_reducible refine wp_alloc_own hO ?_ | with_reducible refine wp_drew_own hO ?_ | with_reducible refine bodyPost_alloc_own hO ?_ | with_reducible refine bodyPost_drew_own hO ?_ | ((first | with_reducible apply wpList_set_own | with_reducible apply wp_set_own | with_reducible apply bodyPost_set_own); (focus (first | (with_reducible apply Own.set; (focus (with_reducible apply hO)); (repeat (first | with_reducible exact Put.here _ _ _ | with_reducible apply Put.there)); done) | (with_reducible apply Own.setRow; (focus (with_reducible apply hO)); (focus (repeat (first | with_reducible exact Put.here _ _ _ | with_reducible apply Put.there))); first | assumption | (simp; omega) | (simp; assumption)) | ((repeat' (first | with_reducible apply hO | with_reducible apply Own.set)); all_goals (repeat (first | with_reducible exact Put.here _ _ _ | with_reducible apply Put.there)); done))))); clear hO; intro w9 hO; (try dsimp only [List.set] at hO); ((try clear hf); have hf := hO.facts; (try simp only [FX, Nat.zero_add, Nat.reduceAdd, and_true, true_and, List.map_cons, List.map_nil, List.cons_append, List.nil_append] at hf)))); (refine wp_region_run (fun _ => True) (fun _ _ _ _ => trivial) trivial ((0, 0) :: (0, 1) :: (0, 2) :: (0, 3) :: (0, 4) :: (3, 5) :: (0, 6) :: (0, 7) :: (0, 8) :: (0, 9) :: (0, 10) :: []) (by kernel_rfl) (by kernel_rfl) rfl (fun _ _ d _ _ h => by cases d <;> exact h) ?_; intro w9 hx9; replace hO := hO.ext hx9; clear hx9; ((try clear hf); have hf := hO.facts; (try simp only [FX, Nat.zero_add, Nat.reduceAdd, and_true, true_and, List.map_cons, List.map_nil, List.cons_append, List.nil_append] at hf)); (repeat (first | (apply inRun_p _ rfl rfl rfl; focus (intro w8 K8 hK8; (repeat (first | go_skip | go_guarded | go_step)); exact hK8)) | (apply inRun_l _ rfl rfl rfl; focus (intro w8 hx8 K8 hK8; have hO := hO.ext hx8; ((try clear hf); have hf := hO.facts; (try simp only [FX, Nat.zero_add, Nat.reduceAdd, and_true, true_and, List.map_cons, List.map_nil, List.cons_append, List.nil_append] at hf)); skip; (repeat (first | go_skip | go_guarded | go_step)); exact hK8)) | (apply inRun_q _ rfl; (focus (intro w8 hx8 K8 hK8; have hO := hO.ext hx8; ((try clear hf); have hf := hO.facts; (try simp only [FX, Nat.zero_add, Nat.reduceAdd, and_true, true_and, List.map_cons, List.map_nil, List.cons_append, List.nil_append] at hf)); (repeat (first | go_skip | go_guarded | go_step | (go_at_call 65; (with_reducible refine Calls.mono (HG _) ?_; rintro e7 w7 ⟨rfl, hx7⟩; dsimp only)))); (first | exact (by repeat (first | exact Ext.refl _ | assumption | refine Ext.of_drew ?_ | refine Ext.alloc ?_ _ | refine Ext.drew ?_ | refine Ext.trans ?_ (by assumption))) | exact hK8 _ (by repeat (first | exact Ext.refl _ | assumption | refine Ext.of_drew ?_ | refine Ext.alloc ?_ _ | refine Ext.drew ?_ | refine Ext.trans ?_ (by assumption)))))); (focus (exact rfl)); intro w8 hx8; replace hO := hO.ext hx8; clear hx8; ((try clear hf); have hf := hO.facts; (try simp only [FX, Nat.zero_add, Nat.reduceAdd, and_true, true_and, List.map_cons, List.map_nil, List.cons_append, List.nil_append] at hf)))))); refine inRun_nil ?_)
              go_wp2_with (first | (go_at_call 65; (with_reducible apply Calls.mono (HF _); rintro e8 w8 ⟨rfl, hx8⟩; replace hO := hO.ext hx8; clear hx8; dsimp only; ((try clear hf); have hf := hO.facts; (try simp only [FX, Nat.zero_add, Nat.reduceAdd, and_true, true_and, List.map_cons, List.map_nil, List.cons_append, List.nil_append] at hf)))) | ((first | with_reducible refine wpList_alloc_own hO ?_ | with_reducible refine wpList_drew_own hO ?_ | with_reducible refine wp_alloc_own hO ?_ | with_reducible refine wp_drew_own hO ?_ | with_reducible refine bodyPost_alloc_own hO ?_ | with_reducible refine bodyPost_drew_own hO ?_ | ((first | with_reducible apply wpList_set_own | with_reducible apply wp_set_own | with_reducible apply bodyPost_set_own); (focus (first | (with_reducible apply Own.set; (focus (with_reducible apply hO)); (repeat (first | with_reducible exact Put.here _ _ _ | with_reducible apply Put.there)); done) | (with_reducible apply Own.setRow; (focus (with_reducible apply hO)); (focus (repeat (first | with_reducible exact Put.here _ _ _ | with_reducible apply Put.there))); first | assumption | (simp; omega) | (simp; assumption)) | ((repeat' (first | with_reducible apply hO | with_reducible apply Own.set)); all_goals (repeat (first | with_reducible exact Put.here _ _ _ | with_reducible apply Put.there)); done))))); clear hO; intro w9 hO; (try dsimp only [List.set] at hO); ((try clear hf); have hf := hO.facts; (try simp only [FX, Nat.zero_add, Nat.reduceAdd, and_true, true_and, List.map_cons, List.map_nil, List.cons_append, List.nil_append] at hf))))
              (go_ret2; subst hD; refine ⟨((oa, oc), D), rfl, ?_⟩; dsimp only; replace hO := hO.toPure (p := dss D = dss D) rfl; exact hO.give (by repeat (first | with_reducible exact Takes.nil _ | with_reducible apply Takes.cons | with_reducible exact Pick.here _ _ | with_reducible apply Pick.there)) (by repeat (first | exact Keeps.here _ | apply Keeps.skip)))
          · by_cases hK1 : (s[0]'(by omega)).toNat = 111
            · rw [if_pos ⟨hA, .inl hK1, hN5⟩, show ((s[0]'(by omega)).toNat == 99) = false from by rw [hK1]; rfl] at hif
              have hts : (s.extract 6 (6 + (s[5]'(by omega)).toNat)).size ≤ 90 := lookB_size hif
              cases hp : parseO (s.extract 6 (6 + (s[5]'(by omega)).toNat)) with
              | none =>
                rw [scan_unread hif hp] at HI2
                obtain ⟨rfl, rfl⟩ := Prod.mk.inj HI2
                have HP := fun w => rparse_none w (by omega) hp
                unfold zCh at HP
                clear hif hA hp
                generalize four (first + i) = y at *
                (go_wp2_with (first | ((go_at_call 65; (with_reducible apply Calls.mono (HG _); rintro e8 w8 ⟨rfl, hx8⟩; replace hO := hO.ext hx8; clear hx8; dsimp only; ((try clear hf); have hf := hO.facts; (try simp only [FX, Nat.zero_add, Nat.reduceAdd, and_true, true_and, List.map_cons, List.map_nil, List.cons_append, List.nil_append] at hf))))) | ((first | with_reducible refine wpList_alloc_own hO ?_ | with_reducible refine wpList_drew_own hO ?_ | with_reducible refine wp_alloc_own hO ?_ | with_reducible refine wp_drew_own hO ?_ | with_reducible refine bodyPost_alloc_own hO ?_ | with_reducible refine bodyPost_drew_own hO ?_ | ((first | with_reducible apply wpList_set_own | with_reducible apply wp_set_own | with_reducible apply bodyPost_set_own); (focus (first | (with_reducible apply Own.set; (focus (with_reducible apply hO)); (repeat (first | with_reducible exact Put.here _ _ _ | with_reducible apply Put.there)); done) | (with_reducible apply Own.setRow; (focus (with_reducible apply hO)); (focus (repeat (first | with_reducible exact Put.here _ _ _ | with_reducible apply Put.there))); first | assumption | (simp; omega) | (simp; assumption)) | ((repeat' (first | with_reducible apply hO | with_reducible apply Own.set)); all_goals (repeat (first | with_reducible exact Put.here _ _ _ | with_reducible apply Put.there)); done))))); clear hO; intro w9 hO; (try dsimp only [List.set] at hO); ((try clear hf); have hf := hO.facts; (try simp only [FX, Nat.zero_add, Nat.reduceAdd, and_true, true_and, List.map_cons, List.map_nil, List.cons_append, List.nil_append] at hf)))); (refine wp_region_run (fun _ => True) (fun _ _ _ _ => trivial) trivial ((0, 0) :: (0, 1) :: (0, 2) :: (0, 3) :: (0, 4) :: (3, 5) :: (0, 6) :: (0, 7) :: (0, 8) :: (0, 9) :: (0, 10) :: []) (by kernel_rfl) (by kernel_rfl) rfl (fun _ _ d _ _ h => by cases d <;> exact h) ?_; intro w9 hx9; replace hO := hO.ext hx9; clear hx9; ((try clear hf); have hf := hO.facts; (try simp only [FX, Nat.zero_add, Nat.reduceAdd, and_true, true_and, List.map_cons, List.map_nil, List.cons_append, List.nil_append] at hf)); (repeat (first | (apply inRun_p _ rfl rfl rfl; focus (intro w8 K8 hK8; (repeat (first | go_skip | go_guarded | go_step)); exact hK8)) | (apply inRun_l _ rfl rfl rfl; focus (intro w8 hx8 K8 hK8; have hO := hO.ext hx8; ((try clear hf); have hf := hO.facts; (try simp only [FX, Nat.zero_add, Nat.reduceAdd, and_true, true_and, List.map_cons, List.map_nil, List.cons_append, List.nil_append] at hf)); skip; (repeat (first | go_skip | go_guarded | go_step)); exact hK8)) | (apply inRun_q _ rfl; (focus (intro w8 hx8 K8 hK8; have hO := hO.ext hx8; ((try clear hf); have hf := hO.facts; (try simp only [FX, Nat.zero_add, Nat.reduceAdd, and_true, true_and, List.map_cons, List.map_nil, List.cons_append, List.nil_append] at hf)); (repeat (first | go_skip | go_guarded | go_step | (go_at_call 65; (with_reducible refine Calls.mono (HG _) ?_; rintro e7 w7 ⟨rfl, hx7⟩; dsimp only)))); (first | exact (by repeat (first | exact Ext.refl _ | assumption | refine Ext.of_drew ?_ | refine Ext.alloc ?_ _ | refine Ext.drew ?_ | refine Ext.trans ?_ (by assumption))) | exact hK8 _ (by repeat (first | exact Ext.refl _ | assumption | refine Ext.of_drew ?_ | refine Ext.alloc ?_ _ | refine Ext.drew ?_ | refine Ext.trans ?_ (by assumption)))))); (focus (exact rfl)); intro w8 hx8; replace hO := hO.ext hx8; clear hx8; ((try clear hf); have hf := hO.facts; (try simp only [FX, Nat.zero_add, Nat.reduceAdd, and_true, true_and, List.map_cons, List.map_nil, List.cons_append, List.nil_append] at hf)))))); refine inRun_nil ?_)
                go_wp2_with (first | (go_at_call 66; (with_reducible apply Calls.mono (HP _); rintro e8 w8 ⟨rfl, hx8⟩; replace hO := hO.ext hx8; clear hx8; dsimp only; ((try clear hf); have hf := hO.facts; (try simp only [FX, Nat.zero_add, Nat.reduceAdd, and_true, true_and, List.map_cons, List.map_nil, List.cons_append, List.nil_append] at hf)))) | ((first | with_reducible refine wpList_alloc_own hO ?_ | with_reducible refine wpList_drew_own hO ?_ | with_reducible refine wp_alloc_own hO ?_ | with_reducible refine wp_drew_own hO ?_ | with_reducible refine bodyPost_alloc_own hO ?_ | with_reducible refine bodyPost_drew_own hO ?_ | ((first | with_reducible apply wpList_set_own | with_reducible apply wp_set_own | with_reducible apply bodyPost_set_own); (focus (first | (with_reducible apply Own.set; (focus (with_reducible apply hO)); (repeat (first | with_reducible exact Put.here _ _ _ | with_reducible apply Put.there)); done) | (with_reducible apply Own.setRow; (focus (with_reducible apply hO)); (focus (repeat (first | with_reducible exact Put.here _ _ _ | with_reducible apply Put.there))); first | assumption | (simp; omega) | (simp; assumption)) | ((repeat' (first | with_reducible apply hO | with_reducible apply Own.set)); all_goals (repeat (first | with_reducible exact Put.here _ _ _ | with_reducible apply Put.there)); done))))); clear hO; intro w9 hO; (try dsimp only [List.set] at hO); ((try clear hf); have hf := hO.facts; (try simp only [FX, Nat.zero_add, Nat.reduceAdd, and_true, true_and, List.map_cons, List.map_nil, List.cons_append, List.nil_append] at hf))))
                (go_ret2; subst hD; refine ⟨((oa, oc), D), rfl, ?_⟩; dsimp only; replace hO := hO.toPure (p := dss D = dss D) rfl; exact hO.give (by repeat (first | with_reducible exact Takes.nil _ | with_reducible apply Takes.cons | with_reducible exact Pick.here _ _ | with_reducible apply Pick.there)) (by repeat (first | exact Keeps.here _ | apply Keeps.skip)))
              | some c =>
                rw [scan_open hif hp] at HI2
                have HI3 := Lib.hid HI2
                have HP := fun w => rparse_some w (by omega) hp
                unfold Ch.v at HP
                clear hif hA hp HI2
                generalize four (first + i) = y at *
                (go_wp2_with (first | ((go_at_call 65; (with_reducible apply Calls.mono (HG _); rintro e8 w8 ⟨rfl, hx8⟩; replace hO := hO.ext hx8; clear hx8; dsimp only; ((try clear hf); have hf := hO.facts; (try simp only [FX, Nat.zero_add, Nat.reduceAdd, and_true, true_and, List.map_cons, List.map_nil, List.cons_append, List.nil_append] at hf))))) | ((first | with_reducible refine wpList_alloc_own hO ?_ | with_reducible refine wpList_drew_own hO ?_ | with_reducible refine wp_alloc_own hO ?_ | with_reducible refine wp_drew_own hO ?_ | with_reducible refine bodyPost_alloc_own hO ?_ | with_reducible refine bodyPost_drew_own hO ?_ | ((first | with_reducible apply wpList_set_own | with_reducible apply wp_set_own | with_reducible apply bodyPost_set_own); (focus (first | (with_reducible apply Own.set; (focus (with_reducible apply hO)); (repeat (first | with_reducible exact Put.here _ _ _ | with_reducible apply Put.there)); done) | (with_reducible apply Own.setRow; (focus (with_reducible apply hO)); (focus (repeat (first | with_reducible exact Put.here _ _ _ | with_reducible apply Put.there))); first | assumption | (simp; omega) | (simp; assumption)) | ((repeat' (first | with_reducible apply hO | with_reducible apply Own.set)); all_goals (repeat (first | with_reducible exact Put.here _ _ _ | with_reducible apply Put.there)); done))))); clear hO; intro w9 hO; (try dsimp only [List.set] at hO); ((try clear hf); have hf := hO.facts; (try simp only [FX, Nat.zero_add, Nat.reduceAdd, and_true, true_and, List.map_cons, List.map_nil, List.cons_append, List.nil_append] at hf)))); (refine wp_region_run (fun _ => True) (fun _ _ _ _ => trivial) trivial ((0, 0) :: (0, 1) :: (0, 2) :: (0, 3) :: (0, 4) :: (3, 5) :: (0, 6) :: (0, 7) :: (0, 8) :: (0, 9) :: (0, 10) :: []) (by kernel_rfl) (by kernel_rfl) rfl (fun _ _ d _ _ h => by cases d <;> exact h) ?_; intro w9 hx9; replace hO := hO.ext hx9; clear hx9; ((try clear hf); have hf := hO.facts; (try simp only [FX, Nat.zero_add, Nat.reduceAdd, and_true, true_and, List.map_cons, List.map_nil, List.cons_append, List.nil_append] at hf)); (repeat (first | (apply inRun_p _ rfl rfl rfl; focus (intro w8 K8 hK8; (repeat (first | go_skip | go_guarded | go_step)); exact hK8)) | (apply inRun_l _ rfl rfl rfl; focus (intro w8 hx8 K8 hK8; have hO := hO.ext hx8; ((try clear hf); have hf := hO.facts; (try simp only [FX, Nat.zero_add, Nat.reduceAdd, and_true, true_and, List.map_cons, List.map_nil, List.cons_append, List.nil_append] at hf)); skip; (repeat (first | go_skip | go_guarded | go_step)); exact hK8)) | (apply inRun_q _ rfl; (focus (intro w8 hx8 K8 hK8; have hO := hO.ext hx8; ((try clear hf); have hf := hO.facts; (try simp only [FX, Nat.zero_add, Nat.reduceAdd, and_true, true_and, List.map_cons, List.map_nil, List.cons_append, List.nil_append] at hf)); (repeat (first | go_skip | go_guarded | go_step | (go_at_call 65; (with_reducible refine Calls.mono (HG _) ?_; rintro e7 w7 ⟨rfl, hx7⟩; dsimp only)))); (first | exact (by repeat (first | exact Ext.refl _ | assumption | refine Ext.of_drew ?_ | refine Ext.alloc ?_ _ | refine Ext.drew ?_ | refine Ext.trans ?_ (by assumption))) | exact hK8 _ (by repeat (first | exact Ext.refl _ | assumption | refine Ext.of_drew ?_ | refine Ext.alloc ?_ _ | refine Ext.drew ?_ | refine Ext.trans ?_ (by assumption)))))); (focus (exact rfl)); intro w8 hx8; replace hO := hO.ext hx8; clear hx8; ((try clear hf); have hf := hO.facts; (try simp only [FX, Nat.zero_add, Nat.reduceAdd, and_true, true_and, List.map_cons, List.map_nil, List.cons_append, List.nil_append] at hf)))))); refine inRun_nil ?_)
                go_wp2_with (first | (go_at_call 66; (with_reducible apply Calls.mono (HP _); rintro e8 w8 ⟨rfl, hx8⟩; replace hO := hO.ext hx8; clear hx8; dsimp only; ((try clear hf); have hf := hO.facts; (try simp only [FX, Nat.zero_add, Nat.reduceAdd, and_true, true_and, List.map_cons, List.map_nil, List.cons_append, List.nil_append] at hf)))) | (at_builtin; (refine wpList_append_var hO (by repeat (first | with_reducible exact Pick.here _ _ | with_reducible apply Pick.there)) (by repeat (first | with_reducible exact Pick.here _ _ | with_reducible apply Pick.there)) rfl (.tmp 69) (.tmp 71) 44 rfl iC _ 40 Tryd.underlying44 hiC hzC hsC hbC rfl (by omega) rfl _ _ rfl (by rfl) (by repeat (first | exact ones_nil | refine ones_cons rfl ?_)) (by unfold maxLen; omega) (by omega) ?_; clear hO; intro ka9 kc9 w9 hO; ((try clear hf); have hf := hO.facts; (try simp only [FX, Nat.zero_add, Nat.reduceAdd, and_true, true_and, List.map_cons, List.map_nil, List.cons_append, List.nil_append] at hf)))) | ((first | with_reducible refine wpList_alloc_own hO ?_ | with_reducible refine wpList_drew_own hO ?_ | with_reducible refine wp_alloc_own hO ?_ | with_reducible refine wp_drew_own hO ?_ | with_reducible refine bodyPost_alloc_own hO ?_ | with_reducible refine bodyPost_drew_own hO ?_ | ((first | with_reducible apply wpList_set_own | with_reducible apply wp_set_own | with_reducible apply bodyPost_set_own); (focus (first | (with_reducible apply Own.set; (focus (with_reducible apply hO)); (repeat (first | with_reducible exact Put.here _ _ _ | with_reducible apply Put.there)); done) | (with_reducible apply Own.setRow; (focus (with_reducible apply hO)); (focus (repeat (first | with_reducible exact Put.here _ _ _ | with_reducible apply Put.there))); first | assumption | (simp; omega) | (simp; assumption)) | ((repeat' (first | with_reducible apply hO | with_reducible apply Own.set)); all_goals (repeat (first | with_reducible exact Put.here _ _ _ | with_reducible apply Put.there)); done))))); clear hO; intro w9 hO; (try dsimp only [List.set] at hO); ((try clear hf); have hf := hO.facts; (try simp only [FX, Nat.zero_add, Nat.reduceAdd, and_true, true_and, List.map_cons, List.map_nil, List.cons_append, List.nil_append] at hf))))
                refine ⟨⟨i + 1, nx, on, oc, cn + 1, kc9, oa, ka9, D, C ++ [c], rfl, rfl, rfl, by go_num, by omega, hD, by simp [hC], by omega, by omega, Lib.hid HI3.out, ?_⟩, by simp [intOf]; omega⟩
                rw [chs_append, chs_one1]; unfold Ch.cells
                (try simp only [List.cons_append, List.nil_append])
                exact hO.cut (by repeat (first | with_reducible apply Sub.cons | with_reducible exact Pick.here _ _ | with_reducible apply Pick.there | with_reducible apply Sub.base | with_reducible exact Keeps.here _ | with_reducible apply Keeps.skip))
            · rw [if_neg fun h => by omega] at hif
              rw [scan_none hif] at HI2
              obtain ⟨rfl, rfl⟩ := Prod.mk.inj HI2
              clear hif hA
              generalize four (first + i) = y at *
              (go_wp2_with (first | ((go_at_call 65; (with_reducible apply Calls.mono (HG _); rintro e8 w8 ⟨rfl, hx8⟩; replace hO := hO.ext hx8; clear hx8; dsimp only; ((try clear hf); have hf := hO.facts; (try simp only [FX, Nat.zero_add, Nat.reduceAdd, and_true, true_and, List.map_cons, List.map_nil, List.cons_append, List.nil_append] at hf))))) | ((first | with_reducible refine wpList_alloc_own hO ?_ | with_reducible refine wpList_drew_own hO ?_ | with_reducible refine wp_alloc_own hO ?_ | with_reducible refine wp_drew_own hO ?_ | with_reducible refine bodyPost_alloc_own hO ?_ | with_reducible refine bodyPost_drew_own hO ?_ | ((first | with_reducible apply wpList_set_own | with_reducible apply wp_set_own | with_reducible apply bodyPost_set_own); (focus (first | (with_reducible apply Own.set; (focus (with_reducible apply hO)); (repeat (first | with_reducible exact Put.here _ _ _ | with_reducible apply Put.there)); done) | (with_reducible apply Own.setRow; (focus (with_reducible apply hO)); (focus (repeat (first | with_reducible exact Put.here _ _ _ | with_reducible apply Put.there))); first | assumption | (simp; omega) | (simp; assumption)) | ((repeat' (first | with_reducible apply hO | with_reducible apply Own.set)); all_goals (repeat (first | with_reducible exact Put.here _ _ _ | with_reducible apply Put.there)); done))))); clear hO; intro w9 hO; (try dsimp only [List.set] at hO); ((try clear hf); have hf := hO.facts; (try simp only [FX, Nat.zero_add, Nat.reduceAdd, and_true, true_and, List.map_cons, List.map_nil, List.cons_append, List.nil_append] at hf)))); (refine wp_region_run (fun _ => True) (fun _ _ _ _ => trivial) trivial ((0, 0) :: (0, 1) :: (0, 2) :: (0, 3) :: (0, 4) :: (3, 5) :: (0, 6) :: (0, 7) :: (0, 8) :: (0, 9) :: (0, 10) :: []) (by kernel_rfl) (by kernel_rfl) rfl (fun _ _ d _ _ h => by cases d <;> exact h) ?_; intro w9 hx9; replace hO := hO.ext hx9; clear hx9; ((try clear hf); have hf := hO.facts; (try simp only [FX, Nat.zero_add, Nat.reduceAdd, and_true, true_and, List.map_cons, List.map_nil, List.cons_append, List.nil_append] at hf)); (repeat (first | (apply inRun_p _ rfl rfl rfl; focus (intro w8 K8 hK8; (repeat (first | go_skip | go_guarded | go_step)); exact hK8)) | (apply inRun_l _ rfl rfl rfl; focus (intro w8 hx8 K8 hK8; have hO := hO.ext hx8; ((try clear hf); have hf := hO.facts; (try simp only [FX, Nat.zero_add, Nat.reduceAdd, and_true, true_and, List.map_cons, List.map_nil, List.cons_append, List.nil_append] at hf)); skip; (repeat (first | go_skip | go_guarded | go_step)); exact hK8)) | (apply inRun_q _ rfl; (focus (intro w8 hx8 K8 hK8; have hO := hO.ext hx8; ((try clear hf); have hf := hO.facts; (try simp only [FX, Nat.zero_add, Nat.reduceAdd, and_true, true_and, List.map_cons, List.map_nil, List.cons_append, List.nil_append] at hf)); (repeat (first | go_skip | go_guarded | go_step | (go_at_call 65; (with_reducible refine Calls.mono (HG _) ?_; rintro e7 w7 ⟨rfl, hx7⟩; dsimp only)))); (first | exact (by repeat (first | exact Ext.refl _ | assumption | refine Ext.of_drew ?_ | refine Ext.alloc ?_ _ | refine Ext.drew ?_ | refine Ext.trans ?_ (by assumption))) | exact hK8 _ (by repeat (first | exact Ext.refl _ | assumption | refine Ext.of_drew ?_ | refine Ext.alloc ?_ _ | refine Ext.drew ?_ | refine Ext.trans ?_ (by assumption)))))); (focus (exact rfl)); intro w8 hx8; replace hO := hO.ext hx8; clear hx8; ((try clear hf); have hf := hO.facts; (try simp only [FX, Nat.zero_add, Nat.reduceAdd, and_true, true_and, List.map_cons, List.map_nil, List.cons_append, List.nil_append] at hf)))))); refine inRun_nil ?_)
              go_wp2_with (first | ((first | with_reducible refine wpList_alloc_own hO ?_ | with_reducible refine wpList_drew_own hO ?_ | with_reducible refine wp_alloc_own hO ?_ | with_reducible refine wp_drew_own hO ?_ | with_reducible refine bodyPost_alloc_own hO ?_ | with_reducible refine bodyPost_drew_own hO ?_ | ((first | with_reducible apply wpList_set_own | with_reducible apply wp_set_own | with_reducible apply bodyPost_set_own); (focus (first | (with_reducible apply Own.set; (focus (with_reducible apply hO)); (repeat (first | with_reducible exact Put.here _ _ _ | with_reducible apply Put.there)); done) | (with_reducible apply Own.setRow; (focus (with_reducible apply hO)); (focus (repeat (first | with_reducible exact Put.here _ _ _ | with_reducible apply Put.there))); first | assumption | (simp; omega) | (simp; assumption)) | ((repeat' (first | with_reducible apply hO | with_reducible apply Own.set)); all_goals (repeat (first | with_reducible exact Put.here _ _ _ | with_reducible apply Put.there)); done))))); clear hO; intro w9 hO; (try dsimp only [List.set] at hO); ((try clear hf); have hf := hO.facts; (try simp only [FX, Nat.zero_add, Nat.reduceAdd, and_true, true_and, List.map_cons, List.map_nil, List.cons_append, List.nil_append] at hf))))
              (go_ret2; subst hD; refine ⟨((oa, oc), D), rfl, ?_⟩; dsimp only; replace hO := hO.toPure (p := dss D = dss D) rfl; exact hO.give (by repeat (first | with_reducible exact Takes.nil _ | with_reducible apply Takes.cons | with_reducible exact Pick.here _ _ | with_reducible apply Pick.there)) (by repeat (first | exact Keeps.here _ | apply Keeps.skip)))
        · rw [if_neg fun h => by omega] at hif
          rw [scan_none hif] at HI2
          obtain ⟨rfl, rfl⟩ := Prod.mk.inj HI2
          clear hif hA
          generalize four (first + i) = y at *
          (go_wp2_with (first | ((go_at_call 65; (with_reducible apply Calls.mono (HG _); rintro e8 w8 ⟨rfl, hx8⟩; replace hO := hO.ext hx8; clear hx8; dsimp only; ((try clear hf); have hf := hO.facts; (try simp only [FX, Nat.zero_add, Nat.reduceAdd, and_true, true_and, List.map_cons, List.map_nil, List.cons_append, List.nil_append] at hf))))) | ((first | with_reducible refine wpList_alloc_own hO ?_ | with_reducible refine wpList_drew_own hO ?_ | with_reducible refine wp_alloc_own hO ?_ | with_reducible refine wp_drew_own hO ?_ | with_reducible refine bodyPost_alloc_own hO ?_ | with_reducible refine bodyPost_drew_own hO ?_ | ((first | with_reducible apply wpList_set_own | with_reducible apply wp_set_own | with_reducible apply bodyPost_set_own); (focus (first | (with_reducible apply Own.set; (focus (with_reducible apply hO)); (repeat (first | with_reducible exact Put.here _ _ _ | with_reducible apply Put.there)); done) | (with_reducible apply Own.setRow; (focus (with_reducible apply hO)); (focus (repeat (first | with_reducible exact Put.here _ _ _ | with_reducible apply Put.there))); first | assumption | (simp; omega) | (simp; assumption)) | ((repeat' (first | with_reducible apply hO | with_reducible apply Own.set)); all_goals (repeat (first | with_reducible exact Put.here _ _ _ | with_reducible apply Put.there)); done))))); clear hO; intro w9 hO; (try dsimp only [List.set] at hO); ((try clear hf); have hf := hO.facts; (try simp only [FX, Nat.zero_add, Nat.reduceAdd, and_true, true_and, List.map_cons, List.map_nil, List.cons_append, List.nil_append] at hf)))); (refine wp_region_run (fun _ => True) (fun _ _ _ _ => trivial) trivial ((0, 0) :: (0, 1) :: (0, 2) :: (0, 3) :: (0, 4) :: (3, 5) :: (0, 6) :: (0, 7) :: (0, 8) :: (0, 9) :: (0, 10) :: []) (by kernel_rfl) (by kernel_rfl) rfl (fun _ _ d _ _ h => by cases d <;> exact h) ?_; intro w9 hx9; replace hO := hO.ext hx9; clear hx9; ((try clear hf); have hf := hO.facts; (try simp only [FX, Nat.zero_add, Nat.reduceAdd, and_true, true_and, List.map_cons, List.map_nil, List.cons_append, List.nil_append] at hf)); (repeat (first | (apply inRun_p _ rfl rfl rfl; focus (intro w8 K8 hK8; (repeat (first | go_skip | go_guarded | go_step)); exact hK8)) | (apply inRun_l _ rfl rfl rfl; focus (intro w8 hx8 K8 hK8; have hO := hO.ext hx8; ((try clear hf); have hf := hO.facts; (try simp only [FX, Nat.zero_add, Nat.reduceAdd, and_true, true_and, List.map_cons, List.map_nil, List.cons_append, List.nil_append] at hf)); skip; (repeat (first | go_skip | go_guarded | go_step)); exact hK8)) | (apply inRun_q _ rfl; (focus (intro w8 hx8 K8 hK8; have hO := hO.ext hx8; ((try clear hf); have hf := hO.facts; (try simp only [FX, Nat.zero_add, Nat.reduceAdd, and_true, true_and, List.map_cons, List.map_nil, List.cons_append, List.nil_append] at hf)); (repeat (first | go_skip | go_guarded | go_step | (go_at_call 65; (with_reducible refine Calls.mono (HG _) ?_; rintro e7 w7 ⟨rfl, hx7⟩; dsimp only)))); (first | exact (by repeat (first | exact Ext.refl _ | assumption | refine Ext.of_drew ?_ | refine Ext.alloc ?_ _ | refine Ext.drew ?_ | refine Ext.trans ?_ (by assumption))) | exact hK8 _ (by repeat (first | exact Ext.refl _ | assumption | refine Ext.of_drew ?_ | refine Ext.alloc ?_ _ | refine Ext.drew ?_ | refine Ext.trans ?_ (by assumption)))))); (focus (exact rfl)); intro w8 hx8; replace hO := hO.ext hx8; clear hx8; ((try clear hf); have hf := hO.facts; (try simp only [FX, Nat.zero_add, Nat.reduceAdd, and_true, true_and, List.map_cons, List.map_nil, List.cons_append, List.nil_append] at hf)))))); refine inRun_nil ?_)
          go_wp2_with (first | ((first | with_reducible refine wpList_alloc_own hO ?_ | with_reducible refine wpList_drew_own hO ?_ | with_reducible refine wp_alloc_own hO ?_ | with_reducible refine wp_drew_own hO ?_ | with_reducible refine bodyPost_alloc_own hO ?_ | with_reducible refine bodyPost_drew_own hO ?_ | ((first | with_reducible apply wpList_set_own | with_reducible apply wp_set_own | with_reducible apply bodyPost_set_own); (focus (first | (with_reducible apply Own.set; (focus (with_reducible apply hO)); (repeat (first | with_reducible exact Put.here _ _ _ | with_reducible apply Put.there)); done) | (with_reducible apply Own.setRow; (focus (with_reducible apply hO)); (focus (repeat (first | with_reducible exact Put.here _ _ _ | with_reducible apply Put.there))); first | assumption | (simp; omega) | (simp; assumption)) | ((repeat' (first | with_reducible apply hO | with_reducible apply Own.set)); all_goals (repeat (first | with_reducible exact Put.here _ _ _ | with_reducible apply Put.there)); done))))); clear hO; intro w9 hO; (try dsimp only [List.set] at hO); ((try clear hf); have hf := hO.facts; (try simp only [FX, Nat.zero_add, Nat.reduceAdd, and_true, true_and, List.map_cons, List.map_nil, List.cons_append, List.nil_append] at hf))))
          (go_ret2; subst hD; refine ⟨((oa, oc), D), rfl, ?_⟩; dsimp only; replace hO := hO.toPure (p := dss D = dss D) rfl; exact hO.give (by repeat (first | with_reducible exact Takes.nil _ | with_reducible apply Takes.cons | with_reducible exact Pick.here _ _ | with_reducible apply Pick.there)) (by repeat (first | exact Keeps.here _ | apply Keeps.skip)))
      · rw [if_neg fun h => hA h.1] at hif
        rw [scan_none hif] at HI2
        obtain ⟨rfl, rfl⟩ := Prod.mk.inj HI2
        clear hif hA
        generalize four (first + i) = y at *
        (go_wp2_with (first | ((go_at_call 65; (with_reducible apply Calls.mono (HG _); rintro e8 w8 ⟨rfl, hx8⟩; replace hO := hO.ext hx8; clear hx8; dsimp only; ((try clear hf); have hf := hO.facts; (try simp only [FX, Nat.zero_add, Nat.reduceAdd, and_true, true_and, List.map_cons, List.map_nil, List.cons_append, List.nil_append] at hf))))) | ((first | with_reducible refine wpList_alloc_own hO ?_ | with_reducible refine wpList_drew_own hO ?_ | with_reducible refine wp_alloc_own hO ?_ | with_reducible refine wp_drew_own hO ?_ | with_reducible refine bodyPost_alloc_own hO ?_ | with_reducible refine bodyPost_drew_own hO ?_ | ((first | with_reducible apply wpList_set_own | with_reducible apply wp_set_own | with_reducible apply bodyPost_set_own); (focus (first | (with_reducible apply Own.set; (focus (with_reducible apply hO)); (repeat (first | with_reducible exact Put.here _ _ _ | with_reducible apply Put.there)); done) | (with_reducible apply Own.setRow; (focus (with_reducible apply hO)); (focus (repeat (first | with_reducible exact Put.here _ _ _ | with_reducible apply Put.there))); first | assumption | (simp; omega) | (simp; assumption)) | ((repeat' (first | with_reducible apply hO | with_reducible apply Own.set)); all_goals (repeat (first | with_reducible exact Put.here _ _ _ | with_reducible apply Put.there)); done))))); clear hO; intro w9 hO; (try dsimp only [List.set] at hO); ((try clear hf); have hf := hO.facts; (try simp only [FX, Nat.zero_add, Nat.reduceAdd, and_true, true_and, List.map_cons, List.map_nil, List.cons_append, List.nil_append] at hf)))); (refine wp_region_run (fun _ => True) (fun _ _ _ _ => trivial) trivial ((0, 0) :: (0, 1) :: (0, 2) :: (0, 3) :: (0, 4) :: (3, 5) :: (0, 6) :: (0, 7) :: (0, 8) :: (0, 9) :: (0, 10) :: []) (by kernel_rfl) (by kernel_rfl) rfl (fun _ _ d _ _ h => by cases d <;> exact h) ?_; intro w9 hx9; replace hO := hO.ext hx9; clear hx9; ((try clear hf); have hf := hO.facts; (try simp only [FX, Nat.zero_add, Nat.reduceAdd, and_true, true_and, List.map_cons, List.map_nil, List.cons_append, List.nil_append] at hf)); (repeat (first | (apply inRun_p _ rfl rfl rfl; focus (intro w8 K8 hK8; (repeat (first | go_skip | go_guarded | go_step)); exact hK8)) | (apply inRun_l _ rfl rfl rfl; focus (intro w8 hx8 K8 hK8; have hO := hO.ext hx8; ((try clear hf); have hf := hO.facts; (try simp only [FX, Nat.zero_add, Nat.reduceAdd, and_true, true_and, List.map_cons, List.map_nil, List.cons_append, List.nil_append] at hf)); skip; (repeat (first | go_skip | go_guarded | go_step)); exact hK8)) | (apply inRun_q _ rfl; (focus (intro w8 hx8 K8 hK8; have hO := hO.ext hx8; ((try clear hf); have hf := hO.facts; (try simp only [FX, Nat.zero_add, Nat.reduceAdd, and_true, true_and, List.map_cons, List.map_nil, List.cons_append, List.nil_append] at hf)); (repeat (first | go_skip | go_guarded | go_step | (go_at_call 65; (with_reducible refine Calls.mono (HG _) ?_; rintro e7 w7 ⟨rfl, hx7⟩; dsimp only)))); (first | exact (by repeat (first | exact Ext.refl _ | assumption | refine Ext.of_drew ?_ | refine Ext.alloc ?_ _ | refine Ext.drew ?_ | refine Ext.trans ?_ (by assumption))) | exact hK8 _ (by repeat (first | exact Ext.refl _ | assumption | refine Ext.of_drew ?_ | refine Ext.alloc ?_ _ | refine Ext.drew ?_ | refine Ext.trans ?_ (by assumption)))))); (focus (exact rfl)); intro w8 hx8; replace hO := hO.ext hx8; clear hx8; ((try clear hf); have hf := hO.facts; (try simp only [FX, Nat.zero_add, Nat.reduceAdd, and_true, true_and, List.map_cons, List.map_nil, List.cons_append, List.nil_append] at hf)))))); refine inRun_nil ?_)
        go_wp2_with (first | ((first | with_reducible refine wpList_alloc_own hO ?_ | with_reducible refine wpList_drew_own hO ?_ | with_reducible refine wp_alloc_own hO ?_ | with_reducible refine wp_drew_own hO ?_ | with_reducible refine bodyPost_alloc_own hO ?_ | with_reducible refine bodyPost_drew_own hO ?_ | ((first | with_reducible apply wpList_set_own | with_reducible apply wp_set_own | with_reducible apply bodyPost_set_own); (focus (first | (with_reducible apply Own.set; (focus (with_reducible apply hO)); (repeat (first | with_reducible exact Put.here _ _ _ | with_reducible apply Put.there)); done) | (with_reducible apply Own.setRow; (focus (with_reducible apply hO)); (focus (repeat (first | with_reducible exact Put.here _ _ _ | with_reducible apply Put.there))); first | assumption | (simp; omega) | (simp; assumption)) | ((repeat' (first | with_reducible apply hO | with_reducible apply Own.set)); all_goals (repeat (first | with_reducible exact Put.here _ _ _ | with_reducible apply Put.there)); done))))); clear hO; intro w9 hO; (try dsimp only [List.set] at hO); ((try clear hf); have hf := hO.facts; (try simp only [FX, Nat.zero_add, Nat.reduceAdd, and_true, true_and, List.map_cons, List.map_nil, List.cons_append, List.nil_append] at hf))))
        (go_ret2; subst hD; refine ⟨((oa, oc), D), rfl, ?_⟩; dsimp only; replace hO := hO.toPure (p := dss D = dss D) rfl; exact hO.give (by repeat (first | with_reducible exact Takes.nil _ | with_reducible apply Takes.cons | with_reducible exact Pick.here _ _ | with_reducible apply Pick.there)) (by repeat (first | exact Keeps.here _ | apply Keeps.skip)))
    · have HI2 := HI.out
      rw [List.drop_of_length_le (by omega), scan] at HI2
      clear HI
      obtain ⟨rfl, rfl⟩ := Prod.mk.inj HI2
      go_wp2_with (first | ((first | with_reducible refine wpList_alloc_own hO ?_ | with_reducible refine wpList_drew_own hO ?_ | with_reducible refine wp_alloc_own hO ?_ | with_reducible refine wp_drew_own hO ?_ | with_reducible refine bodyPost_alloc_own hO ?_ | with_reducible refine bodyPost_drew_own hO ?_ | ((first | with_reducible apply wpList_set_own | with_reducible apply wp_set_own | with_reducible apply bodyPost_set_own); (focus (first | (with_reducible apply Own.set; (focus (with_reducible apply hO)); (repeat (first | with_reducible exact Put.here _ _ _ | with_reducible apply Put.there)); done) | (with_reducible apply Own.setRow; (focus (with_reducible apply hO)); (focus (repeat (first | with_reducible exact Put.here _ _ _ | with_reducible apply Put.there))); first | assumption | (simp; omega) | (simp; assumption)) | ((repeat' (first | with_reducible apply hO | with_reducible apply Own.set)); all_goals (repeat (first | with_reducible exact Put.here _ _ _ | with_reducible apply Put.there)); done))))); clear hO; intro w9 hO; (try dsimp only [List.set] at hO); ((try clear hf); have hf := hO.facts; (try simp only [FX, Nat.zero_add, Nat.reduceAdd, and_true, true_and, List.map_cons, List.map_nil, List.cons_append, List.nil_append] at hf))))
      (go_ret2; subst hD; refine ⟨((oa, oc), D), rfl, ?_⟩; dsimp only; replace hO := hO.toPure (p := dss D = dss D) rfl; exact hO.give (by repeat (first | with_reducible exact Takes.nil _ | with_reducible apply Takes.cons | with_reducible exact Pick.here _ _ | with_reducible apply Pick.there)) (by repeat (first | exact Keeps.here _ | apply Keeps.skip)))
end Go.Proofs.YtpdnlgopbnkdhaaDoor
namespace Go.Proofs.YtpdnlgopbnkdhaaDoor
open Go.RowKit
/-- Deeds as they lie in memory. -/
def DLAt (w : World) (a : Option Addr) (D : List DV) : Prop := ValsAt w a (D.map dv) ∧ DsAt w D
theorem DLAt.up {w w' : World} {a : Option Addr} {D : List DV} (h : DLAt w a D) (hb : ∀ b, b < w.heap.size → w'.heap[b]? = w.heap[b]?) : DLAt w' a D := ⟨vals_up h.1 hb, fun d hd => vals_up (h.2 d hd) hb⟩
theorem DLAt.ext {w w' : World} {a : Option Addr} {D : List DV} (h : DLAt w a D) (hx : Ext w w') : DLAt w' a D := ⟨h.1.ext hx, fun d hd => ValsAt.ext (h.2 d hd) hx⟩
theorem Own.dl {S : Nat → Prop} {W w : World} {l l' : List Rs} {a : Option Addr} {n c : Nat} {D : List DV} (h : Own S W w l) (ht : Takes l [Row2 44 1 a n c (D.map dv), .imm fun w => DsAt w D] l') : Own S W w (.imm (fun w => DLAt w a D) :: l') := by
  have h1 := h.take ht
  simp only [List.cons_append, List.nil_append] at h1
  exact (Own.rowImm h1 (.here _ _)).and
set_option maxHeartbeats 2000000 in
set_option maxRecDepth 100000 in
theorem sdeeds_does (a b : Option Addr) (n c d : Nat) (D E : List DV) (w : World) (hD : D.length = n) (hE : E.length = n) (hn : n ≤ 1000) (hde : dss D = dss E) (hs : ∀ x ∈ D, x.2.2.length ≤ 1000) (hA : DLAt w a D) (hB : DLAt w b E) :
    Calls Tryd.prog 19 #[.slice a n c, .slice b n d] w fun e w' => e = .returned (.bool true) ∧ Ext w w' := by
  have hO : Own (fun _ => False) w w [.imm fun w => DLAt w a D ∧ DLAt w b E] := Own.base w _ fun _ hw' => ⟨hA.up hw', hB.up hw'⟩
  have HS := Lib.hid hs
  have HDE := Lib.hid hde
  clear hA hB hs hde
  ((try clear hf); have hf := hO.facts; (try simp only [FX, Nat.zero_add, Nat.reduceAdd, and_true, true_and, List.map_cons, List.map_nil, List.cons_append, List.nil_append] at hf))
  go_enter Tryd.func19, Tryd.ntmps19
  go_wp2_with (first | ((first | with_reducible refine wpList_alloc_own hO ?_ | with_reducible refine wpList_drew_own hO ?_ | with_reducible refine wp_alloc_own hO ?_ | with_reducible refine wp_drew_own hO ?_ | with_reducible refine bodyPost_alloc_own hO ?_ | with_reducible refine bodyPost_drew_own hO ?_ | ((first | with_reducible apply wpList_set_own | with_reducible apply wp_set_own | with_reducible apply bodyPost_set_own); (focus (first | (with_reducible apply Own.set; (focus (with_reducible apply hO)); (repeat (first | with_reducible exact Put.here _ _ _ | with_reducible apply Put.there)); done) | (with_reducible apply Own.setRow; (focus (with_reducible apply hO)); (focus (repeat (first | with_reducible exact Put.here _ _ _ | with_reducible apply Put.there))); first | assumption | (simp; omega) | (simp; assumption)) | ((repeat' (first | with_reducible apply hO | with_reducible apply Own.set)); all_goals (repeat (first | with_reducible exact Put.here _ _ _ | with_reducible apply Put.there)); done))))); clear hO; intro w9 hO; (try dsimp only [List.set] at hO); ((try clear hf); have hf := hO.facts; (try simp only [FX, Nat.zero_add, Nat.reduceAdd, and_true, true_and, List.map_cons, List.map_nil, List.cons_append, List.nil_append] at hf))))
  go_loopw [5] (fun v wr => ∃ k : Nat, v = .int .i64 k ∧ k ≤ n ∧ Own (fun _ => False) w wr [.imm fun w => DLAt w a D ∧ DLAt w b E]) (fun v _ => n - (intOf v).toNat)
  case atStart => exact ⟨0, rfl, by omega, hO⟩
  case round =>
    clear hO
    obtain ⟨k, rfl, hk, hO⟩ := hrel
    rename World => w0
    ((try clear hf); have hf := hO.facts; (try simp only [FX, Nat.zero_add, Nat.reduceAdd, and_true, true_and, List.map_cons, List.map_nil, List.cons_append, List.nil_append] at hf))
    by_cases hlt : k < n
    · have hk2 : k < D.length := by omega
      have hk3 : k < E.length := by omega
      have e1 : (D.map dv)[k]? = some (dv D[k]) := by rw [List.getElem?_map, List.getElem?_eq_getElem hk2]; rfl
      have e2 : (E.map dv)[k]? = some (dv E[k]) := by rw [List.getElem?_map, List.getElem?_eq_getElem hk3]; rfl
      obtain ⟨b1, o1, rfl⟩ := ValsAt.some (a := a) hf.1.1 e1
      obtain ⟨b2, o2, rfl⟩ := ValsAt.some (a := b) hf.2.1 e2
      have hxy : D[k].2.2 = E[k].2.2 := by
        have := congrArg (fun l => l[k]?) HDE.out
        simp only [dss, List.getElem?_map, List.getElem?_eq_getElem hk2, List.getElem?_eq_getElem hk3, Option.map_some, Option.some.injEq] at this
        exact this
      have hsm := HS.out _ (List.getElem_mem hk2)
      have hca := fun w (h : DLAt w (some ⟨b1, o1, none⟩) D ∧ DLAt w (some ⟨b2, o2, none⟩) E) => ValsAt.get h.1.1 e1
      have hcb := fun w (h : DLAt w (some ⟨b1, o1, none⟩) D ∧ DLAt w (some ⟨b2, o2, none⟩) E) => ValsAt.get h.2.1 e2
      have hcx := fun w (h : DLAt w (some ⟨b1, o1, none⟩) D ∧ DLAt w (some ⟨b2, o2, none⟩) E) => h.1.2 _ (List.getElem_mem hk2)
      have hcy := fun w (h : DLAt w (some ⟨b1, o1, none⟩) D ∧ DLAt w (some ⟨b2, o2, none⟩) E) => h.2.2 _ (List.getElem_mem hk3)
      clear e1 e2
      generalize D[k] = x at *
      generalize E[k] = y at *
      obtain ⟨xa, xc, xl⟩ := x
      obtain ⟨ya, yc, yl⟩ := y
      dsimp only [dv] at hxy hca hcb hcx hcy hsm
      subst hxy
      have HC := fun w h => same_does xa ya xl.length xc yc xl w rfl hsm (hcx w h) (hcy w h)
      clear hcx hcy
      go_wp2_with (first | ((first | with_reducible refine wpList_alloc_own hO ?_ | with_reducible refine wpList_drew_own hO ?_ | with_reducible refine wp_alloc_own hO ?_ | with_reducible refine wp_drew_own hO ?_ | with_reducible refine bodyPost_alloc_own hO ?_ | with_reducible refine bodyPost_drew_own hO ?_ | ((first | with_reducible apply wpList_set_own | with_reducible apply wp_set_own | with_reducible apply bodyPost_set_own); (focus (first | (with_reducible apply Own.set; (focus (with_reducible apply hO)); (repeat (first | with_reducible exact Put.here _ _ _ | with_reducible apply Put.there)); done) | (with_reducible apply Own.setRow; (focus (with_reducible apply hO)); (focus (repeat (first | with_reducible exact Put.here _ _ _ | with_reducible apply Put.there))); first | assumption | (simp; omega) | (simp; assumption)) | ((repeat' (first | with_reducible apply hO | with_reducible apply Own.set)); all_goals (repeat (first | with_reducible exact Put.here _ _ _ | with_reducible apply Put.there)); done))))); clear hO; intro w9 hO; (try dsimp only [List.set] at hO); ((try clear hf); have hf := hO.facts; (try simp only [FX, Nat.zero_add, Nat.reduceAdd, and_true, true_and, List.map_cons, List.map_nil, List.cons_append, List.nil_append] at hf))))
      (refine wp_region_run (fun _ => True) (fun _ _ _ _ => trivial) trivial ((0, 0) :: (0, 1) :: (0, 2) :: (1, 3) :: (0, 4) :: (0, 5) :: (0, 6) :: (1, 7) :: (3, 8) :: (0, 9) :: []) (by kernel_rfl) (by kernel_rfl) rfl (fun _ _ d _ _ h => by cases d <;> exact h) ?_; intro w9 hx9; replace hO := hO.ext hx9; clear hx9; ((try clear hf); have hf := hO.facts; (try simp only [FX, Nat.zero_add, Nat.reduceAdd, and_true, true_and, List.map_cons, List.map_nil, List.cons_append, List.nil_append] at hf)); (repeat (first | (apply inRun_p _ rfl rfl rfl; focus (intro w8 K8 hK8; (repeat (first | go_skip | go_guarded | go_step)); exact hK8)) | (apply inRun_l _ rfl rfl rfl; focus (intro w8 hx8 K8 hK8; have hO := hO.ext hx8; ((try clear hf); have hf := hO.facts; (try simp only [FX, Nat.zero_add, Nat.reduceAdd, and_true, true_and, List.map_cons, List.map_nil, List.cons_append, List.nil_append] at hf)); have c0 := hca _ hf; have c1 := hcb _ hf; (repeat (first | go_skip | go_guarded | go_step)); exact hK8)) | (apply inRun_q _ rfl; (focus (intro w8 hx8 K8 hK8; have hO := hO.ext hx8; ((try clear hf); have hf := hO.facts; (try simp only [FX, Nat.zero_add, Nat.reduceAdd, and_true, true_and, List.map_cons, List.map_nil, List.cons_append, List.nil_append] at hf)); (repeat (first | go_skip | go_guarded | go_step | (go_at_call 67; (with_reducible refine Calls.mono (HC _ hf) ?_; rintro e7 w7 ⟨rfl, hx7⟩; dsimp only)))); (first | exact (by repeat (first | exact Ext.refl _ | assumption | refine Ext.of_drew ?_ | refine Ext.alloc ?_ _ | refine Ext.drew ?_ | refine Ext.trans ?_ (by assumption))) | exact hK8 _ (by repeat (first | exact Ext.refl _ | assumption | refine Ext.of_drew ?_ | refine Ext.alloc ?_ _ | refine Ext.drew ?_ | refine Ext.trans ?_ (by assumption)))))); (focus (exact rfl)); intro w8 hx8; replace hO := hO.ext hx8; clear hx8; ((try clear hf); have hf := hO.facts; (try simp only [FX, Nat.zero_add, Nat.reduceAdd, and_true, true_and, List.map_cons, List.map_nil, List.cons_append, List.nil_append] at hf))))))
      refine inRun_nil ?_
      go_wp2_with (first | ((first | with_reducible refine wpList_alloc_own hO ?_ | with_reducible refine wpList_drew_own hO ?_ | with_reducible refine wp_alloc_own hO ?_ | with_reducible refine wp_drew_own hO ?_ | with_reducible refine bodyPost_alloc_own hO ?_ | with_reducible refine bodyPost_drew_own hO ?_ | ((first | with_reducible apply wpList_set_own | with_reducible apply wp_set_own | with_reducible apply bodyPost_set_own); (focus (first | (with_reducible apply Own.set; (focus (with_reducible apply hO)); (repeat (first | with_reducible exact Put.here _ _ _ | with_reducible apply Put.there)); done) | (with_reducible apply Own.setRow; (focus (with_reducible apply hO)); (focus (repeat (first | with_reducible exact Put.here _ _ _ | with_reducible apply Put.there))); first | assumption | (simp; omega) | (simp; assumption)) | ((repeat' (first | with_reducible apply hO | with_reducible apply Own.set)); all_goals (repeat (first | with_reducible exact Put.here _ _ _ | with_reducible apply Put.there)); done))))); clear hO; intro w9 hO; (try dsimp only [List.set] at hO); ((try clear hf); have hf := hO.facts; (try simp only [FX, Nat.zero_add, Nat.reduceAdd, and_true, true_and, List.map_cons, List.map_nil, List.cons_append, List.nil_append] at hf))))
      exact ⟨⟨k + 1, by go_num, by omega, hO⟩, by simp [intOf]; omega⟩
    · go_wp2_with (first | ((first | with_reducible refine wpList_alloc_own hO ?_ | with_reducible refine wpList_drew_own hO ?_ | with_reducible refine wp_alloc_own hO ?_ | with_reducible refine wp_drew_own hO ?_ | with_reducible refine bodyPost_alloc_own hO ?_ | with_reducible refine bodyPost_drew_own hO ?_ | ((first | with_reducible apply wpList_set_own | with_reducible apply wp_set_own | with_reducible apply bodyPost_set_own); (focus (first | (with_reducible apply Own.set; (focus (with_reducible apply hO)); (repeat (first | with_reducible exact Put.here _ _ _ | with_reducible apply Put.there)); done) | (with_reducible apply Own.setRow; (focus (with_reducible apply hO)); (focus (repeat (first | with_reducible exact Put.here _ _ _ | with_reducible apply Put.there))); first | assumption | (simp; omega) | (simp; assumption)) | ((repeat' (first | with_reducible apply hO | with_reducible apply Own.set)); all_goals (repeat (first | with_reducible exact Put.here _ _ _ | with_reducible apply Put.there)); done))))); clear hO; intro w9 hO; (try dsimp only [List.set] at hO); ((try clear hf); have hf := hO.facts; (try simp only [FX, Nat.zero_add, Nat.reduceAdd, and_true, true_and, List.map_cons, List.map_nil, List.cons_append, List.nil_append] at hf))))
      go_ret
      exact ⟨rfl, hO.toExt⟩
theorem sdeeds_len (a b : Option Addr) (n m c d : Nat) (w : World) (hnm : n ≠ m) : Calls Tryd.prog 19 #[.slice a n c, .slice b m d] w fun e w' => e = .returned (.bool false) ∧ Ext w w' := by
  have hO := Own.start w (fun _ => False)
  go_enter Tryd.func19, Tryd.ntmps19
  go_wp2_with (first | ((first | with_reducible refine wpList_alloc_own hO ?_ | with_reducible refine wpList_drew_own hO ?_ | with_reducible refine wp_alloc_own hO ?_ | with_reducible refine wp_drew_own hO ?_ | with_reducible refine bodyPost_alloc_own hO ?_ | with_reducible refine bodyPost_drew_own hO ?_ | ((first | with_reducible apply wpList_set_own | with_reducible apply wp_set_own | with_reducible apply bodyPost_set_own); (focus (first | (with_reducible apply Own.set; (focus (with_reducible apply hO)); (repeat (first | with_reducible exact Put.here _ _ _ | with_reducible apply Put.there)); done) | (with_reducible apply Own.setRow; (focus (with_reducible apply hO)); (focus (repeat (first | with_reducible exact Put.here _ _ _ | with_reducible apply Put.there))); first | assumption | (simp; omega) | (simp; assumption)) | ((repeat' (first | with_reducible apply hO | with_reducible apply Own.set)); all_goals (repeat (first | with_reducible exact Put.here _ _ _ | with_reducible apply Put.there)); done))))); clear hO; intro w9 hO; (try dsimp only [List.set] at hO); ((try clear hf); have hf := hO.facts; (try simp only [FX, Nat.zero_add, Nat.reduceAdd, and_true, true_and, List.map_cons, List.map_nil, List.cons_append, List.nil_append] at hf))))
  all_goals first | (go_ret; exact ⟨rfl, hO.toExt⟩) | (exfalso; simp_all; done) | (exfalso; omega)
theorem room_reads (p q frm many first u : Nat) (hm : many ≤ 100000) (hu : u ≤ 100000) : Reads Tryd.prog 20 #[.pointer (some ⟨q, 0, none⟩)] [Var q [.pointer (some ⟨p, 0, none⟩), .int .i64 frm, .int .i64 many, .int .i64 first, .int .i64 u] 108] (.int .i64 ((many : Int) - u)) := by
  intro w L0 hO
  simp only [List.map_cons, List.map_nil, List.cons_append, List.nil_append] at hO
  ((try clear hf); have hf := hO.facts; (try simp only [FX, Nat.zero_add, Nat.reduceAdd, and_true, true_and, List.map_cons, List.map_nil, List.cons_append, List.nil_append] at hf))
  go_enter Tryd.func20, Tryd.ntmps20
  go_wp2_with (first | ((first | with_reducible refine wpList_alloc_own hO ?_ | with_reducible refine wpList_drew_own hO ?_ | with_reducible refine wp_alloc_own hO ?_ | with_reducible refine wp_drew_own hO ?_ | with_reducible refine bodyPost_alloc_own hO ?_ | with_reducible refine bodyPost_drew_own hO ?_ | ((first | with_reducible apply wpList_set_own | with_reducible apply wp_set_own | with_reducible apply bodyPost_set_own); (focus (first | (with_reducible apply Own.set; (focus (with_reducible apply hO)); (repeat (first | with_reducible exact Put.here _ _ _ | with_reducible apply Put.there)); done) | (with_reducible apply Own.setRow; (focus (with_reducible apply hO)); (focus (repeat (first | with_reducible exact Put.here _ _ _ | with_reducible apply Put.there))); first | assumption | (simp; omega) | (simp; assumption)) | ((repeat' (first | with_reducible apply hO | with_reducible apply Own.set)); all_goals (repeat (first | with_reducible exact Put.here _ _ _ | with_reducible apply Put.there)); done))))); clear hO; intro w9 hO; (try dsimp only [List.set] at hO); ((try clear hf); have hf := hO.facts; (try simp only [FX, Nat.zero_add, Nat.reduceAdd, and_true, true_and, List.map_cons, List.map_nil, List.cons_append, List.nil_append] at hf))))
  (refine wp_region_run (fun _ => True) (fun _ _ _ _ => trivial) trivial ((0, 0) :: (0, 1) :: (0, 2) :: (1, 3) :: (0, 4) :: (0, 5) :: (0, 6) :: (1, 7) :: (0, 8) :: (0, 9) :: []) (by kernel_rfl) (by kernel_rfl) rfl (fun _ _ d _ _ h => by cases d <;> exact h) ?_; intro w9 hx9; replace hO := hO.ext hx9; clear hx9; ((try clear hf); have hf := hO.facts; (try simp only [FX, Nat.zero_add, Nat.reduceAdd, and_true, true_and, List.map_cons, List.map_nil, List.cons_append, List.nil_append] at hf)); (repeat (first | (apply inRun_p _ rfl rfl rfl; focus (intro w8 K8 hK8; (repeat (first | go_skip | go_guarded | go_step)); exact hK8)) | (apply inRun_l _ rfl rfl rfl; focus (intro w8 hx8 K8 hK8; have hO := hO.ext hx8; ((try clear hf); have hf := hO.facts; (try simp only [FX, Nat.zero_add, Nat.reduceAdd, and_true, true_and, List.map_cons, List.map_nil, List.cons_append, List.nil_append] at hf)); skip; (repeat (first | go_skip | go_guarded | go_step)); exact hK8)) | (apply inRun_q _ rfl; (focus (intro w8 hx8 K8 hK8; have hO := hO.ext hx8; ((try clear hf); have hf := hO.facts; (try simp only [FX, Nat.zero_add, Nat.reduceAdd, and_true, true_and, List.map_cons, List.map_nil, List.cons_append, List.nil_append] at hf)); (repeat (first | go_skip | go_guarded | go_step | fail)); (first | exact (by repeat (first | exact Ext.refl _ | assumption | refine Ext.of_drew ?_ | refine Ext.alloc ?_ _ | refine Ext.drew ?_ | refine Ext.trans ?_ (by assumption))) | exact hK8 _ (by repeat (first | exact Ext.refl _ | assumption | refine Ext.of_drew ?_ | refine Ext.alloc ?_ _ | refine Ext.drew ?_ | refine Ext.trans ?_ (by assumption)))))); (focus (exact rfl)); intro w8 hx8; replace hO := hO.ext hx8; clear hx8; ((try clear hf); have hf := hO.facts; (try simp only [FX, Nat.zero_add, Nat.reduceAdd, and_true, true_and, List.map_cons, List.map_nil, List.cons_append, List.nil_append] at hf))))))
  refine inRun_nil ?_
  go_wp2_with (first | ((first | with_reducible refine wpList_alloc_own hO ?_ | with_reducible refine wpList_drew_own hO ?_ | with_reducible refine wp_alloc_own hO ?_ | with_reducible refine wp_drew_own hO ?_ | with_reducible refine bodyPost_alloc_own hO ?_ | with_reducible refine bodyPost_drew_own hO ?_ | ((first | with_reducible apply wpList_set_own | with_reducible apply wp_set_own | with_reducible apply bodyPost_set_own); (focus (first | (with_reducible apply Own.set; (focus (with_reducible apply hO)); (repeat (first | with_reducible exact Put.here _ _ _ | with_reducible apply Put.there)); done) | (with_reducible apply Own.setRow; (focus (with_reducible apply hO)); (focus (repeat (first | with_reducible exact Put.here _ _ _ | with_reducible apply Put.there))); first | assumption | (simp; omega) | (simp; assumption)) | ((repeat' (first | with_reducible apply hO | with_reducible apply Own.set)); all_goals (repeat (first | with_reducible exact Put.here _ _ _ | with_reducible apply Put.there)); done))))); clear hO; intro w9 hO; (try dsimp only [List.set] at hO); ((try clear hf); have hf := hO.facts; (try simp only [FX, Nat.zero_add, Nat.reduceAdd, and_true, true_and, List.map_cons, List.map_nil, List.cons_append, List.nil_append] at hf))))
  go_ret
  exact ⟨rfl, hO.toExt⟩
theorem next_reads (p q frm many first u : Nat) (hm : many ≤ 100000) (hu : first ≤ 10000000) : Reads Tryd.prog 21 #[.pointer (some ⟨q, 0, none⟩)] [Var q [.pointer (some ⟨p, 0, none⟩), .int .i64 frm, .int .i64 many, .int .i64 first, .int .i64 u] 108] (.int .i64 ((first : Int) + many)) := by
  intro w L0 hO
  simp only [List.map_cons, List.map_nil, List.cons_append, List.nil_append] at hO
  ((try clear hf); have hf := hO.facts; (try simp only [FX, Nat.zero_add, Nat.reduceAdd, and_true, true_and, List.map_cons, List.map_nil, List.cons_append, List.nil_append] at hf))
  go_enter Tryd.func21, Tryd.ntmps21
  go_wp2_with (first | ((first | with_reducible refine wpList_alloc_own hO ?_ | with_reducible refine wpList_drew_own hO ?_ | with_reducible refine wp_alloc_own hO ?_ | with_reducible refine wp_drew_own hO ?_ | with_reducible refine bodyPost_alloc_own hO ?_ | with_reducible refine bodyPost_drew_own hO ?_ | ((first | with_reducible apply wpList_set_own | with_reducible apply wp_set_own | with_reducible apply bodyPost_set_own); (focus (first | (with_reducible apply Own.set; (focus (with_reducible apply hO)); (repeat (first | with_reducible exact Put.here _ _ _ | with_reducible apply Put.there)); done) | (with_reducible apply Own.setRow; (focus (with_reducible apply hO)); (focus (repeat (first | with_reducible exact Put.here _ _ _ | with_reducible apply Put.there))); first | assumption | (simp; omega) | (simp; assumption)) | ((repeat' (first | with_reducible apply hO | with_reducible apply Own.set)); all_goals (repeat (first | with_reducible exact Put.here _ _ _ | with_reducible apply Put.there)); done))))); clear hO; intro w9 hO; (try dsimp only [List.set] at hO); ((try clear hf); have hf := hO.facts; (try simp only [FX, Nat.zero_add, Nat.reduceAdd, and_true, true_and, List.map_cons, List.map_nil, List.cons_append, List.nil_append] at hf))))
  (refine wp_region_run (fun _ => True) (fun _ _ _ _ => trivial) trivial ((0, 0) :: (0, 1) :: (0, 2) :: (1, 3) :: (0, 4) :: (0, 5) :: (0, 6) :: (1, 7) :: (0, 8) :: (0, 9) :: []) (by kernel_rfl) (by kernel_rfl) rfl (fun _ _ d _ _ h => by cases d <;> exact h) ?_; intro w9 hx9; replace hO := hO.ext hx9; clear hx9; ((try clear hf); have hf := hO.facts; (try simp only [FX, Nat.zero_add, Nat.reduceAdd, and_true, true_and, List.map_cons, List.map_nil, List.cons_append, List.nil_append] at hf)); (repeat (first | (apply inRun_p _ rfl rfl rfl; focus (intro w8 K8 hK8; (repeat (first | go_skip | go_guarded | go_step)); exact hK8)) | (apply inRun_l _ rfl rfl rfl; focus (intro w8 hx8 K8 hK8; have hO := hO.ext hx8; ((try clear hf); have hf := hO.facts; (try simp only [FX, Nat.zero_add, Nat.reduceAdd, and_true, true_and, List.map_cons, List.map_nil, List.cons_append, List.nil_append] at hf)); skip; (repeat (first | go_skip | go_guarded | go_step)); exact hK8)) | (apply inRun_q _ rfl; (focus (intro w8 hx8 K8 hK8; have hO := hO.ext hx8; ((try clear hf); have hf := hO.facts; (try simp only [FX, Nat.zero_add, Nat.reduceAdd, and_true, true_and, List.map_cons, List.map_nil, List.cons_append, List.nil_append] at hf)); (repeat (first | go_skip | go_guarded | go_step | fail)); (first | exact (by repeat (first | exact Ext.refl _ | assumption | refine Ext.of_drew ?_ | refine Ext.alloc ?_ _ | refine Ext.drew ?_ | refine Ext.trans ?_ (by assumption))) | exact hK8 _ (by repeat (first | exact Ext.refl _ | assumption | refine Ext.of_drew ?_ | refine Ext.alloc ?_ _ | refine Ext.drew ?_ | refine Ext.trans ?_ (by assumption)))))); (focus (exact rfl)); intro w8 hx8; replace hO := hO.ext hx8; clear hx8; ((try clear hf); have hf := hO.facts; (try simp only [FX, Nat.zero_add, Nat.reduceAdd, and_true, true_and, List.map_cons, List.map_nil, List.cons_append, List.nil_append] at hf))))))
  refine inRun_nil ?_
  go_wp2_with (first | ((first | with_reducible refine wpList_alloc_own hO ?_ | with_reducible refine wpList_drew_own hO ?_ | with_reducible refine wp_alloc_own hO ?_ | with_reducible refine wp_drew_own hO ?_ | with_reducible refine bodyPost_alloc_own hO ?_ | with_reducible refine bodyPost_drew_own hO ?_ | ((first | with_reducible apply wpList_set_own | with_reducible apply wp_set_own | with_reducible apply bodyPost_set_own); (focus (first | (with_reducible apply Own.set; (focus (with_reducible apply hO)); (repeat (first | with_reducible exact Put.here _ _ _ | with_reducible apply Put.there)); done) | (with_reducible apply Own.setRow; (focus (with_reducible apply hO)); (focus (repeat (first | with_reducible exact Put.here _ _ _ | with_reducible apply Put.there))); first | assumption | (simp; omega) | (simp; assumption)) | ((repeat' (first | with_reducible apply hO | with_reducible apply Own.set)); all_goals (repeat (first | with_reducible exact Put.here _ _ _ | with_reducible apply Put.there)); done))))); clear hO; intro w9 hO; (try dsimp only [List.set] at hO); ((try clear hf); have hf := hO.facts; (try simp only [FX, Nat.zero_add, Nat.reduceAdd, and_true, true_and, List.map_cons, List.map_nil, List.cons_append, List.nil_append] at hf))))
  go_ret
  exact ⟨rfl, hO.toExt⟩
end Go.Proofs.YtpdnlgopbnkdhaaDoor
namespace Go.Proofs.YtpdnlgopbnkdhaaDoor
open Go.RowKit
/-- Several texts are written. -/
def Dk.lays (d : Dk) : List (Nat × ByteArray) → Nat × Dk
  | [] => (0, d)
  | t :: l => if (d.writeR t.1 t.2).1 = 0 then (d.writeR t.1 t.2).2.lays l else d.writeR t.1 t.2
theorem lays_append (b : List (Nat × ByteArray)) : ∀ (a : List (Nat × ByteArray)) (d : Dk), d.lays (a ++ b) = if (d.lays a).1 = 0 then (d.lays a).2.lays b else d.lays a
  | [], d => by simp [Dk.lays]
  | t :: a, d => by
    rw [List.cons_append, Dk.lays, Dk.lays]
    by_cases h : (d.writeR t.1 t.2).1 = 0
    · rw [if_pos h, if_pos h, lays_append b a]
    · rw [if_neg h, if_neg h, if_neg h]
/-- The texts of a deed. -/
def ows (p n : Nat) : List Ch → List (Nat × ByteArray)
  | [] => []
  | c :: l => (p, secB 111 n (bytesC c)) :: ows (p + 1) (n + 1) l
theorem ows_append : ∀ (a b : List Ch) (p n : Nat), ows p n (a ++ b) = ows p n a ++ ows (p + a.length) (n + a.length) b
  | [], b, p, n => rfl
  | c :: a, b, p, n => by
    rw [List.cons_append, ows, ows, List.cons_append, ows_append a b, List.length_cons]
    rw [show p + 1 + a.length = p + (a.length + 1) from by omega, show n + 1 + a.length = n + (a.length + 1) from by omega]
/-- All that is laid ahead of the end. -/
def lws (frm many first u : Nat) (l : List Ch) : List (Nat × ByteArray) :=
  ows (frm + u) (first + u) l ++ if u + l.length + 1 < many then [(frm + (u + l.length + 1), (⟨#[]⟩ : ByteArray))] else []
/-- A deed is added. -/
def Dk.addD (d : Dk) (frm many first u : Nat) (l : List Ch) : Nat × Dk :=
  if (d.lays (lws frm many first u l)).1 = 0 then
    if (d.lays (lws frm many first u l)).2.flush.1 = 0 then
      if ((d.lays (lws frm many first u l)).2.flush.2.writeR ((frm + (u + l.length) : Nat) : Int) (secB 99 (first + (u + l.length)) (four l.length))).1 = 0 then
        ((d.lays (lws frm many first u l)).2.flush.2.writeR ((frm + (u + l.length) : Nat) : Int) (secB 99 (first + (u + l.length)) (four l.length))).2.flush
      else (d.lays (lws frm many first u l)).2.flush.2.writeR ((frm + (u + l.length) : Nat) : Int) (secB 99 (first + (u + l.length)) (four l.length))
    else (d.lays (lws frm many first u l)).2.flush
  else d.lays (lws frm many first u l)
theorem ows_mem {q : Nat} {t : ByteArray} : ∀ (l : List Ch) (p n : Nat), (q, t) ∈ ows p n l → ∃ k c, l[k]? = some c ∧ q = p + k ∧ t = secB 111 (n + k) (bytesC c)
  | [], p, n, h => by cases h
  | c :: l, p, n, h => by
    rw [ows] at h
    rcases List.mem_cons.1 h with h | h
    · injection h with h1 h2
      exact ⟨0, c, rfl, by omega, h2⟩
    · obtain ⟨k, c', h1, h2, h3⟩ := ows_mem l (p + 1) (n + 1) h
      exact ⟨k + 1, c', by simpa using h1, by omega, by rw [h3, show n + 1 + k = n + (k + 1) from by omega]⟩
theorem lws_mem {q : Nat} {t : ByteArray} {frm many first u : Nat} {l : List Ch} (h : (q, t) ∈ lws frm many first u l) :
    (∃ k c, l[k]? = some c ∧ q = frm + u + k ∧ t = secB 111 (first + u + k) (bytesC c)) ∨ (q = frm + (u + l.length + 1) ∧ u + l.length + 1 < many ∧ t = ⟨#[]⟩) := by
  unfold lws at h
  rcases List.mem_append.1 h with h | h
  · exact .inl (ows_mem l _ _ h)
  · split at h
    · rename_i hm
      rw [List.mem_singleton] at h
      injection h with h1 h2
      exact .inr ⟨h1, hm, h2⟩
    · cases h
/-- Where and how long. -/
theorem lws_ok {frm many first u : Nat} {l : List Ch} (hl : ∀ c ∈ l, ChOk c) (hu : u + l.length + 1 ≤ many) : ∀ t ∈ lws frm many first u l, t.1 < frm + many ∧ t.2.size ≤ 96 := by
  rintro ⟨q, t⟩ h
  rcases lws_mem h with ⟨k, c, h1, h2, h3⟩ | ⟨h1, h2, h3⟩
  · obtain ⟨hk, h1⟩ := List.getElem?_eq_some_iff.1 h1
    have := bytes_size (hl c (h1 ▸ List.getElem_mem hk))
    refine ⟨by dsimp only; omega, ?_⟩
    dsimp only
    rw [h3, secB_size]; omega
  · exact ⟨by dsimp only; omega, by dsimp only; rw [h3]; exact Nat.zero_le _⟩
def setsB (B : List ByteArray) (ws : List (Nat × ByteArray)) : List ByteArray := ws.foldl (fun b t => b.set t.1 (fullOf t.2)) B
def fulls (ws : List (Nat × ByteArray)) : List (Nat × ByteArray) := ws.map fun t => (t.1, fullOf t.2)
theorem setsB_length : ∀ (ws : List (Nat × ByteArray)) (B : List ByteArray), (setsB B ws).length = B.length
  | [], B => rfl
  | t :: ws, B => by
    show (setsB (B.set t.1 (fullOf t.2)) ws).length = _
    rw [setsB_length ws, List.length_set]
theorem step_up {d : Dk} (hd : d.down = false) : (d.fuse ≠ -1 ∧ d.step = (10, { d with down := true, fuse := -1 })) ∨ ∃ f, d.step = (0, ⟨d.kept, d.now, d.wait, f, false⟩) ∧ (d.fuse = -1 → f = -1) := by
  obtain ⟨kept, now, wait, fuse, down⟩ := d
  dsimp only at hd
  subst hd
  unfold Dk.step
  dsimp only
  by_cases h : fuse = 0
  · left
    refine ⟨by omega, ?_⟩
    simp [h]
  · right
    refine ⟨fuseOf fuse, by simp [h], fun e => by rw [e]; rfl⟩
theorem write_up {d : Dk} {n : Nat} {s : ByteArray} (hd : d.down = false) (hn : n < d.now.length) (hs : s.size ≤ 96) :
    (d.fuse ≠ -1 ∧ d.writeR n s = (10, { d with down := true, fuse := -1 })) ∨ ∃ f, d.writeR n s = (0, ⟨d.kept, d.now.set n (fullOf s), d.wait ++ [(n, fullOf s)], f, false⟩) ∧ (d.fuse = -1 → f = -1) := by
  have hb : ¬ ((n : Int) < 0 ∨ (d.now.length : Int) ≤ n ∨ 96 < s.size) := by omega
  rcases step_up hd with ⟨h1, h2⟩ | ⟨f, h1, h2⟩
  · left
    refine ⟨h1, ?_⟩
    unfold Dk.writeR
    rw [if_neg hb, h2]
    rfl
  · right
    refine ⟨f, ?_, h2⟩
    unfold Dk.writeR
    rw [if_neg hb, h1, if_pos rfl]
    rfl
theorem flush_up {d : Dk} (hd : d.down = false) : (d.fuse ≠ -1 ∧ d.flush = (10, { d with down := true, fuse := -1 })) ∨ ∃ f, d.flush = (0, ⟨d.now, d.now, [], f, false⟩) ∧ (d.fuse = -1 → f = -1) := by
  rcases step_up hd with ⟨h1, h2⟩ | ⟨f, h1, h2⟩
  · left
    refine ⟨h1, ?_⟩
    unfold Dk.flush
    rw [h2]
    rfl
  · right
    refine ⟨f, ?_, h2⟩
    unfold Dk.flush
    rw [h1, if_pos rfl]
theorem lays_up : ∀ (ws : List (Nat × ByteArray)) (d : Dk), d.down = false → (∀ t ∈ ws, t.1 < d.now.length ∧ t.2.size ≤ 96) →
    (∃ f, d.lays ws = (0, ⟨d.kept, setsB d.now ws, d.wait ++ fulls ws, f, false⟩) ∧ (d.fuse = -1 → f = -1)) ∨
    (d.fuse ≠ -1 ∧ ∃ d' a b, d.lays ws = (10, d') ∧ ws = a ++ b ∧ d'.kept = d.kept ∧ d'.wait = d.wait ++ fulls a)
  | [], d, hd, h => by
    left
    refine ⟨d.fuse, ?_, fun h => h⟩
    obtain ⟨kept, now, wait, fuse, down⟩ := d
    dsimp only at hd
    subst hd
    simp [Dk.lays, setsB, fulls]
  | t :: ws, d, hd, h => by
    have ht := h t (List.mem_cons_self ..)
    rw [Dk.lays]
    rcases write_up hd ht.1 ht.2 with ⟨h1, h2⟩ | ⟨f, h1, h2⟩
    · right
      rw [h2, if_neg (by simp)]
      exact ⟨h1, _, [], t :: ws, rfl, rfl, rfl, by simp [fulls]⟩
    · rw [h1, if_pos rfl]
      dsimp only
      rcases lays_up ws ⟨d.kept, d.now.set t.1 (fullOf t.2), d.wait ++ [(t.1, fullOf t.2)], f, false⟩ rfl (fun x hx => by
        dsimp only; rw [List.length_set]; exact h x (List.mem_cons_of_mem _ hx)) with ⟨g, e, hg⟩ | ⟨hn, d', a, b, e1, e2, e3, e4⟩
      · left
        refine ⟨g, ?_, fun x => hg (h2 x)⟩
        rw [e]
        dsimp only
        rw [List.append_assoc]
        rfl
      · right
        refine ⟨fun x => hn (h2 x), d', t :: a, b, e1, by rw [e2]; rfl, e3, ?_⟩
        rw [e4]
        dsimp only
        rw [List.append_assoc]
        rfl
/-- What may be kept of what was written. -/
def Mix (B K : List ByteArray) (ws : List (Nat × ByteArray)) : Prop := ∀ j, K[j]? = B[j]? ∨ ∃ s, (j, s) ∈ ws ∧ K[j]? = some (fullOf s)
theorem Mix.refl (B : List ByteArray) (ws : List (Nat × ByteArray)) : Mix B B ws := fun j => .inl rfl
theorem Mix.set {B K : List ByteArray} {ws : List (Nat × ByteArray)} (h : Mix B K ws) {n : Nat} {s : ByteArray} (hs : (n, s) ∈ ws) : Mix B (K.set n (fullOf s)) ws := fun j => by
  by_cases e : n = j
  · subst e
    by_cases hn : n < K.length
    · exact .inr ⟨s, hs, by rw [List.getElem?_set_self hn]⟩
    · rw [List.set_eq_of_length_le (by omega)]; exact h n
  · rw [List.getElem?_set_ne e]; exact h j
theorem Mix.mono {B K : List ByteArray} {ws ws' : List (Nat × ByteArray)} (h : Mix B K ws) (hw : ∀ t ∈ ws, t ∈ ws') : Mix B K ws' := fun j => by
  rcases h j with h | ⟨s, h1, h2⟩
  · exact .inl h
  · exact .inr ⟨s, hw _ h1, h2⟩
theorem Mix.sets {ws : List (Nat × ByteArray)} {B : List ByteArray} : ∀ (v : List (Nat × ByteArray)) (K : List ByteArray), (∀ t ∈ v, t ∈ ws) → Mix B K ws → Mix B (setsB K v) ws
  | [], K, _, h => h
  | t :: v, K, hv, h => Mix.sets v (K.set t.1 (fullOf t.2)) (fun x hx => hv x (List.mem_cons_of_mem _ hx)) (h.set (hv t (List.mem_cons_self ..)))
theorem kept_mix (bit : Nat → Bool) (B : List ByteArray) (ws : List (Nat × ByteArray)) : ∀ j, Mix B (keptAfter bit (fulls ws) B j) ws
  | 0 => Mix.refl B ws
  | j + 1 => by
    unfold keptAfter
    split
    · rename_i a s hs
      have hm : (a, s) ∈ fulls ws := List.mem_of_getElem? hs
      unfold fulls at hm
      obtain ⟨t, ht, e⟩ := List.mem_map.1 hm
      injection e with e1 e2
      split
      · rw [← e1, ← e2]; exact (kept_mix bit B ws j).set ht
      · exact kept_mix bit B ws j
    · exact kept_mix bit B ws j
/-- A log's sectors. -/
def secs (L : List ByteArray) (frm many : Nat) : List ByteArray := (L.drop frm).take many
theorem secs_get (L : List ByteArray) (frm many j : Nat) : (secs L frm many)[j]? = if j < many then L[frm + j]? else none := by
  unfold secs
  rw [List.getElem?_take]
  split
  · rw [List.getElem?_drop]
  · rfl
theorem secs_length {L : List ByteArray} {frm many : Nat} (h : frm + many ≤ L.length) : (secs L frm many).length = many := by
  unfold secs; rw [List.length_take, List.length_drop]; omega
theorem scan_same {first frm many u : Nat} {B K : List ByteArray} {W : List (List Ch)} (h : scan first 0 (secs B frm many) [] [] 0 = (W, u)) (hk : ∀ j, j < u → K[frm + j]? = B[frm + j]?) :
    scan first 0 (secs K frm many) [] [] 0 = scan first u ((secs K frm many).drop u) W [] u := by
  refine (scan_from h ?_).2
  apply List.ext_getElem?
  intro j
  rw [List.getElem?_take, List.getElem?_take]
  split
  · rename_i hj
    rw [secs_get, secs_get, hk j hj]
  · rfl
theorem scan_mix (first u : Nat) (W : List (List Ch)) (h1 : 1 ≤ first) : ∀ (m : List ByteArray) (l : List Ch) (i : Nat) (deed : List Ch), (∀ c ∈ l, ChOk c) → first + i + m.length ≤ 16777216 →
    (∀ k s, m[k]? = some s → s = zeros 96 ∨ ∃ c, l[k]? = some c ∧ s = fullOf (secB 111 (first + i + k) (bytesC c))) → scan first i m W deed u = (W, u)
  | [], l, i, deed, hl, hm, h => by rw [scan]
  | s :: m, l, i, deed, hl, hm, h => by
    rw [List.length_cons] at hm
    rcases h 0 s rfl with e | ⟨c, e1, e2⟩
    · rw [e]
      exact scan_none (lookB_zeros _ (by omega) (by omega))
    · cases l with
      | nil => cases e1
      | cons c' l =>
        injection e1 with e1
        subst e1
        have hc := hl c' (List.mem_cons_self ..)
        rw [show s = fullOf (secB 111 (first + i) (bytesC c')) from e2, scan_open (lookB_sec 111 (first + i) (bytesC c') (.inl rfl) (bytes_size hc)) (parseO_yes (reads_bytes hc) hc)]
        refine scan_mix first u W h1 m l (i + 1) (deed ++ [c']) (fun x hx => hl x (List.mem_cons_of_mem _ hx)) (by omega) fun k s hk => ?_
        rcases h (k + 1) s (by simpa using hk) with e | ⟨c, e1, e2⟩
        · exact .inl e
        · refine .inr ⟨c, by simpa using e1, ?_⟩
          rw [e2, show first + i + (k + 1) = first + (i + 1) + k from by omega]
/-- A log as it stands on a disk. -/
structure LogOn (d : Dk) (frm many first : Nat) (W : List (List Ch)) (u : Nat) : Prop where
  up : d.down = false
  len : frm + many ≤ d.now.length
  sc : scan first 0 (secs d.now frm many) [] [] 0 = (W, u)
/-- Nothing stands behind its deeds, and all is kept. -/
structure Clean (d : Dk) (frm many u : Nat) : Prop where
  kept : d.kept = d.now
  wait : d.wait = []
  zero : ∀ j, u ≤ j → j < many → d.now[frm + j]? = some (zeros 96)
theorem LogOn.used {d : Dk} {frm many first u : Nat} {W : List (List Ch)} (h : LogOn d frm many first W u) : u ≤ many := by
  have := (scan_from h.sc rfl).1
  rw [secs_length h.len] at this
  exact this
theorem mix_scan {frm many first u : Nat} {W : List (List Ch)} {B K : List ByteArray} {l : List Ch} (hl : ∀ c ∈ l, ChOk c) (h1 : 1 ≤ first) (hb : first + many ≤ 16777216)
    (hsc : scan first 0 (secs B frm many) [] [] 0 = (W, u)) (hz : ∀ j, u ≤ j → j < many → B[frm + j]? = some (zeros 96)) (hlen : frm + many ≤ B.length) (hk : K.length = B.length) (hm : Mix B K (lws frm many first u l)) :
    scan first 0 (secs K frm many) [] [] 0 = (W, u) := by
  have hu := (scan_from hsc rfl).1
  rw [secs_length hlen] at hu
  rw [scan_same hsc (fun j hj => ?_)]
  · refine scan_mix first u W h1 _ l u [] hl ?_ fun k s hs => ?_
    · rw [List.length_drop, secs_length (by omega)]; omega
    · rw [List.getElem?_drop, secs_get] at hs
      split at hs
      · rename_i hj
        rcases hm (frm + (u + k)) with h | ⟨t, h, e⟩
        · rw [h, hz _ (by omega) hj] at hs
          injection hs with hs
          exact .inl hs.symm
        · rw [e] at hs
          injection hs with hs
          rcases lws_mem h with ⟨k', c, e1, e2, e3⟩ | ⟨e1, e2, e3⟩
          · obtain rfl : k' = k := by omega
            exact .inr ⟨c, e1, by rw [← hs, e3]⟩
          · left
            rw [← hs, e3]; exact full_none
      · cases hs
  · rcases hm (frm + j) with h | ⟨t, h, e⟩
    · exact h
    · rcases lws_mem h with ⟨k', c, e1, e2, e3⟩ | ⟨e1, e2, e3⟩ <;> omega
theorem sets_ows (first u : Nat) : ∀ (l : List Ch) (B : List ByteArray) (p i : Nat), p + l.length ≤ B.length → ∀ j, (setsB B (ows p (first + i) l))[j]? = if p ≤ j ∧ j < p + l.length then (osecs first i l)[j - p]? else B[j]?
  | [], B, p, i, h, j => by
    rw [if_neg (by simp only [List.length_nil]; omega)]; rfl
  | c :: l, B, p, i, h, j => by
    rw [List.length_cons] at h
    show (setsB (B.set p (fullOf (secB 111 (first + i) (bytesC c)))) (ows (p + 1) (first + i + 1) l))[j]? = _
    rw [show first + i + 1 = first + (i + 1) from by omega, sets_ows first u l _ (p + 1) (i + 1) (by rw [List.length_set]; omega) j, osecs, List.length_cons]
    by_cases hj : j = p
    · subst hj
      rw [if_neg (by omega), if_pos (by omega), List.getElem?_set_self (by omega), Nat.sub_self]; rfl
    · by_cases h2 : p + 1 ≤ j ∧ j < p + 1 + l.length
      · rw [if_pos h2, if_pos (by omega), show j - p = (j - (p + 1)) + 1 from by omega, List.getElem?_cons_succ]
      · rw [if_neg h2, if_neg (by omega), List.getElem?_set_ne (by omega)]
theorem setsB_append (B : List ByteArray) (a b : List (Nat × ByteArray)) : setsB B (a ++ b) = setsB (setsB B a) b := by unfold setsB; rw [List.foldl_append]
/-- What stands there once a deed was laid and its end written. -/
def added (B : List ByteArray) (frm many first u : Nat) (l : List Ch) : List ByteArray := (setsB B (lws frm many first u l)).set (frm + (u + l.length)) (csec first (u + l.length) l.length)
theorem added_length (B : List ByteArray) (frm many first u : Nat) (l : List Ch) : (added B frm many first u l).length = B.length := by unfold added; rw [List.length_set, setsB_length]
theorem added_get {B : List ByteArray} {frm many first u : Nat} {l : List Ch} (hu : u + l.length + 1 ≤ many) (hlen : frm + many ≤ B.length) (j : Nat) :
    (added B frm many first u l)[j]? = if j < frm + u then B[j]? else if j < frm + u + l.length then (osecs first u l)[j - (frm + u)]? else if j = frm + u + l.length then some (csec first (u + l.length) l.length)
      else if j = frm + u + l.length + 1 ∧ u + l.length + 1 < many then some (zeros 96) else B[j]? := by
  have hs : ∀ j, (setsB B (lws frm many first u l))[j]? = if j = frm + u + l.length + 1 ∧ u + l.length + 1 < many then some (zeros 96) else if frm + u ≤ j ∧ j < frm + u + l.length then (osecs first u l)[j - (frm + u)]? else B[j]? := fun j => by
    unfold lws
    rw [setsB_append]
    by_cases hm : u + l.length + 1 < many
    · rw [if_pos hm]
      show ((setsB B (ows (frm + u) (first + u) l)).set (frm + (u + l.length + 1)) (fullOf ⟨#[]⟩))[j]? = _
      by_cases hj : j = frm + u + l.length + 1
      · rw [if_pos ⟨hj, hm⟩, hj, show frm + (u + l.length + 1) = frm + u + l.length + 1 from by omega, List.getElem?_set_self (by rw [setsB_length]; omega), full_none]
      · rw [if_neg (by omega), List.getElem?_set_ne (by omega), sets_ows first u l B _ _ (by omega)]
    · rw [if_neg hm, if_neg (by omega)]
      show (setsB B (ows (frm + u) (first + u) l))[j]? = _
      rw [sets_ows first u l B _ _ (by omega)]
  unfold added
  by_cases hj : j = frm + u + l.length
  · rw [if_neg (by omega), if_neg (by omega), if_pos hj, show frm + (u + l.length) = j from by omega, List.getElem?_set_self (by rw [setsB_length]; omega)]
  · rw [List.getElem?_set_ne (by omega), hs]
    by_cases h1 : j < frm + u
    · rw [if_neg (by omega), if_neg (by omega), if_pos h1]
    · rw [if_neg h1]
      by_cases h2 : j < frm + u + l.length
      · rw [if_neg (by omega), if_pos (by omega), if_pos h2]
      · rw [if_neg h2, if_neg hj]
        by_cases h3 : j = frm + u + l.length + 1 ∧ u + l.length + 1 < many
        · rw [if_pos h3, if_pos h3]
        · rw [if_neg h3, if_neg h3, if_neg (by omega)]
theorem added_scan {B : List ByteArray} {frm many first u : Nat} {W : List (List Ch)} {l : List Ch} (hl : ∀ c ∈ l, ChOk c) (h1 : 1 ≤ first) (hb : first + many ≤ 16777216) (hu : u + l.length + 1 ≤ many) (hlen : frm + many ≤ B.length)
    (hsc : scan first 0 (secs B frm many) [] [] 0 = (W, u)) : scan first 0 (secs (added B frm many first u l) frm many) [] [] 0 = (W ++ [l], u + l.length + 1) := by
  have hg := added_get (first := first) hu hlen
  have hL := added_length B frm many first u l
  generalize added B frm many first u l = K at *
  rw [scan_same hsc (fun j hj => by rw [hg, if_pos (by omega)])]
  have hkl : (secs K frm many).length = many := secs_length (by omega)
  have e : (secs K frm many).drop u = osecs first u l ++ csec first (u + l.length) l.length :: (secs K frm many).drop (u + l.length + 1) := by
    apply List.ext_getElem?
    intro k
    have ho := osecs_length first u l
    rw [List.getElem?_drop, secs_get]
    by_cases h2 : k < l.length
    · rw [if_pos (by omega), hg, if_neg (by omega), if_pos (by omega), List.getElem?_append_left (by omega), show frm + (u + k) - (frm + u) = k from by omega]
    · rw [List.getElem?_append_right (by omega), ho]
      by_cases h3 : k = l.length
      · rw [h3, if_pos (by omega), hg, if_neg (by omega), if_neg (by omega), if_pos (by omega), Nat.sub_self]; rfl
      · rw [show k - l.length = (k - l.length - 1) + 1 from by omega, List.getElem?_cons_succ, List.getElem?_drop, secs_get, show u + l.length + 1 + (k - l.length - 1) = u + k from by omega]
  rw [e]
  refine scan_deed l _ W hl ?_
  by_cases hm : u + l.length + 1 < many
  · right
    refine ⟨zeros 96, (secs K frm many).drop (u + l.length + 2), ?_, lookB_zeros _ (by omega) (by omega)⟩
    rw [List.drop_eq_getElem_cons (by omega)]
    congr 1
    apply Option.some.inj
    rw [← List.getElem?_eq_getElem, secs_get, if_pos hm, hg, if_neg (by omega), if_neg (by omega), if_neg (by omega), if_pos (by omega)]
  · left
    apply List.drop_of_length_le
    omega
/-- A deed is added: all is done, or the disk has fallen. -/
theorem add_ways {d : Dk} {frm many first u : Nat} {l : List Ch} (hd : d.down = false) (hlen : frm + many ≤ d.now.length) (hl : ∀ c ∈ l, ChOk c) (hu : u + l.length + 1 ≤ many) :
    (∃ f, d.addD frm many first u l = (0, ⟨added d.now frm many first u l, added d.now frm many first u l, [], f, false⟩) ∧ (d.fuse = -1 → f = -1)) ∨
    (d.fuse ≠ -1 ∧ ∃ d', d.addD frm many first u l = (10, d') ∧
      ((∃ a b, lws frm many first u l = a ++ b ∧ d'.kept = d.kept ∧ d'.wait = d.wait ++ fulls a) ∨ (d'.kept = setsB d.now (lws frm many first u l) ∧ (d'.wait = [] ∨ d'.wait = [(frm + (u + l.length), csec first (u + l.length) l.length)])))) := by
  unfold Dk.addD
  rcases lays_up (lws frm many first u l) d hd (fun t ht => by have := lws_ok (frm := frm) (first := first) hl hu t ht; omega) with ⟨f, e, hf⟩ | ⟨hn, d', a, b, e1, e2, e3, e4⟩
  · rw [e, if_pos rfl]
    dsimp only
    have hs : (secB 99 (first + (u + l.length)) (four l.length)).size ≤ 96 := by rw [secB_size, four_size]; omega
    rcases flush_up (d := ⟨d.kept, setsB d.now (lws frm many first u l), d.wait ++ fulls (lws frm many first u l), f, false⟩) rfl with ⟨h1, h2⟩ | ⟨f2, h1, h2⟩
    · right
      refine ⟨fun x => h1 (hf x), ?_⟩
      rw [h2, if_neg (by simp)]
      exact ⟨_, rfl, .inl ⟨lws frm many first u l, [], by simp, rfl, rfl⟩⟩
    · rw [h1, if_pos rfl]
      dsimp only at h2 ⊢
      rcases write_up (d := ⟨setsB d.now (lws frm many first u l), setsB d.now (lws frm many first u l), [], f2, false⟩) (n := frm + (u + l.length)) (s := secB 99 (first + (u + l.length)) (four l.length)) rfl (by dsimp only; rw [setsB_length]; omega) hs with ⟨h3, h4⟩ | ⟨f3, h3, h4⟩
      · right
        refine ⟨fun x => h3 (h2 (hf x)), ?_⟩
        rw [h4, if_neg (by simp)]
        exact ⟨_, rfl, .inr ⟨rfl, .inl rfl⟩⟩
      · rw [h3, if_pos rfl]
        dsimp only at h4 ⊢
        rcases flush_up (d := ⟨setsB d.now (lws frm many first u l), (setsB d.now (lws frm many first u l)).set (frm + (u + l.length)) (fullOf (secB 99 (first + (u + l.length)) (four l.length))), [] ++ [(frm + (u + l.length), fullOf (secB 99 (first + (u + l.length)) (four l.length)))], f3, false⟩) rfl with ⟨h5, h6⟩ | ⟨f4, h5, h6⟩
        · right
          refine ⟨fun x => h5 (h4 (h2 (hf x))), _, h6, .inr ⟨rfl, .inr rfl⟩⟩
        · left
          exact ⟨f4, h5, fun x => h6 (h4 (h2 (hf x)))⟩
  · right
    refine ⟨hn, d', ?_, .inl ⟨a, b, e2, e3, e4⟩⟩
    rw [e1, if_neg (by simp)]
/-- All is done: the log has one deed more. -/
theorem LogOn.add {d d' : Dk} {frm many first u : Nat} {W : List (List Ch)} {l : List Ch} (h : LogOn d frm many first W u) (hl : ∀ c ∈ l, ChOk c) (h1 : 1 ≤ first) (hb : first + many ≤ 16777216) (hu : u + l.length + 1 ≤ many)
    (ha : d.addD frm many first u l = (0, d')) : LogOn d' frm many first (W ++ [l]) (u + l.length + 1) ∧ (Clean d frm many u → Clean d' frm many (u + l.length + 1)) ∧ (d.fuse = -1 → d'.fuse = -1) := by
  rcases add_ways (first := first) h.up h.len hl hu with ⟨f, e, hf⟩ | ⟨_, d'', e, _⟩
  · rw [e] at ha
    injection ha with _ ha
    subst ha
    refine ⟨⟨rfl, by dsimp only; rw [added_length]; exact h.len, added_scan hl h1 hb hu h.len h.sc⟩, fun hc => ⟨rfl, rfl, fun j h2 h3 => ?_⟩, hf⟩
    dsimp only
    rw [added_get hu h.len, if_neg (by omega), if_neg (by omega), if_neg (by omega)]
    split
    · rfl
    · exact hc.zero j (by omega) h3
  · rw [e] at ha
    injection ha with ha _
    cases ha
theorem LogOn.quiet {d : Dk} {frm many first u : Nat} {W : List (List Ch)} {l : List Ch} (h : LogOn d frm many first W u) (hl : ∀ c ∈ l, ChOk c) (hu : u + l.length + 1 ≤ many) (hf : d.fuse = -1) :
    (d.addD frm many first u l).1 = 0 := by
  rcases add_ways (first := first) h.up h.len hl hu with ⟨f, e, _⟩ | ⟨hn, _⟩
  · rw [e]
  · exact absurd hf hn
/-- The disk has fallen: whatever is kept, the log has its deeds, or these and the new one. -/
theorem LogOn.fall {d : Dk} {frm many first u : Nat} {W : List (List Ch)} {l : List Ch} (h : LogOn d frm many first W u) (hc : Clean d frm many u) (hl : ∀ c ∈ l, ChOk c) (h1 : 1 ≤ first) (hb : first + many ≤ 16777216) (hu : u + l.length + 1 ≤ many)
    (ha : (d.addD frm many first u l).1 ≠ 0) (K : Int) : (d.addD frm many first u l).1 = 10 ∧
      (LogOn ((d.addD frm many first u l).2.restart K) frm many first W u ∨ LogOn ((d.addD frm many first u l).2.restart K) frm many first (W ++ [l]) (u + l.length + 1)) := by
  rcases add_ways (first := first) h.up h.len hl hu with ⟨f, e, hf⟩ | ⟨_, d', e, hw⟩
  · rw [e] at ha
    exact absurd rfl ha
  · rw [e]
    refine ⟨rfl, ?_⟩
    dsimp only
    have hmx : Mix d.now (setsB d.now (lws frm many first u l)) (lws frm many first u l) := Mix.sets _ _ (fun _ h => h) (Mix.refl _ _)
    have hsl := setsB_length (lws frm many first u l) d.now
    rcases hw with ⟨a, b, e1, e2, e3⟩ | ⟨e1, e2⟩
    · left
      rw [hc.wait, List.nil_append] at e3
      have hm : Mix d.now (keptAfter (bitOf K) d'.wait d'.kept d'.wait.length) (lws frm many first u l) := by
        rw [e3, e2, hc.kept]
        exact (kept_mix _ _ a _).mono fun t ht => by rw [e1]; exact List.mem_append_left _ ht
      have hL : (keptAfter (bitOf K) d'.wait d'.kept d'.wait.length).length = d.now.length := by rw [keptAfter_length, e2, hc.kept]
      exact ⟨rfl, by show _ ≤ (keptAfter _ _ _ _).length; rw [hL]; exact h.len, mix_scan hl h1 hb h.sc hc.zero h.len hL hm⟩
    · have hx : ∀ n s, n < (setsB d.now (lws frm many first u l)).length → keptAfter (bitOf K) [(n, s)] (setsB d.now (lws frm many first u l)) 1 = (setsB d.now (lws frm many first u l)).set n s ∨ keptAfter (bitOf K) [(n, s)] (setsB d.now (lws frm many first u l)) 1 = setsB d.now (lws frm many first u l) := fun n s _ => by
        unfold keptAfter keptAfter
        dsimp only [List.getElem?_cons_zero]
        split
        · exact .inl rfl
        · exact .inr rfl
      have hA : LogOn ⟨setsB d.now (lws frm many first u l), setsB d.now (lws frm many first u l), [], -1, false⟩ frm many first W u :=
        ⟨rfl, by dsimp only; rw [hsl]; exact h.len, mix_scan hl h1 hb h.sc hc.zero h.len hsl hmx⟩
      have hB : LogOn ⟨added d.now frm many first u l, added d.now frm many first u l, [], -1, false⟩ frm many first (W ++ [l]) (u + l.length + 1) :=
        ⟨rfl, by dsimp only; rw [added_length]; exact h.len, added_scan hl h1 hb hu h.len h.sc⟩
      unfold Dk.restart
      rcases e2 with e2 | e2
      · left
        rw [e2, e1]
        exact hA
      · rw [e2, e1]
        rcases hx (frm + (u + l.length)) (csec first (u + l.length) l.length) (by rw [hsl]; have := h.len; omega) with hk | hk
        · right
          show LogOn ⟨keptAfter _ _ _ 1, keptAfter _ _ _ 1, [], -1, false⟩ frm many first _ _
          rw [hk]; exact hB
        · left
          show LogOn ⟨keptAfter _ _ _ 1, keptAfter _ _ _ 1, [], -1, false⟩ frm many first _ _
          rw [hk]; exact hA
end Go.Proofs.YtpdnlgopbnkdhaaDoor
namespace Go.Proofs.YtpdnlgopbnkdhaaDoor
open Go.RowKit
theorem lays_at {d d1 : Dk} {a b : List (Nat × ByteArray)} (h : d.lays a = (0, d1)) : d.lays (a ++ b) = d1.lays b := by rw [lays_append, h, if_pos rfl]
theorem ows_split (p n : Nat) (C : List Ch) {i : Nat} (hi : i < C.length) : ows p n C = ows p n (C.take i) ++ (p + i, secB 111 (n + i) (bytesC C[i])) :: ows (p + i + 1) (n + i + 1) (C.drop (i + 1)) := by
  conv => lhs; rw [← List.take_append_drop i C, ows_append, List.length_take, Nat.min_eq_left (by omega), List.drop_eq_getElem_cons hi, ows]
theorem ows_succ (p n : Nat) (C : List Ch) {i : Nat} (hi : i < C.length) : ows p n (C.take (i + 1)) = ows p n (C.take i) ++ [(p + i, secB 111 (n + i) (bytesC C[i]))] := by
  rw [List.take_succ_eq_append_getElem hi, ows_append, List.length_take, Nat.min_eq_left (by omega)]; rfl
theorem write_code2 {d : Dk} {n : Nat} {s : ByteArray} (hn : n < d.now.length) (hs : s.size ≤ 96) : (d.writeR n s).1 = 0 ∨ (d.writeR n s).1 = 10 := by
  unfold Dk.writeR
  rw [if_neg (by omega)]
  split
  · exact .inl rfl
  · exact .inr rfl
theorem write_lays1 (d : Dk) (t : Nat × ByteArray) (l : List (Nat × ByteArray)) (h : (d.writeR t.1 t.2).1 = 0) : d.lays (t :: l) = (d.writeR t.1 t.2).2.lays l := by rw [Dk.lays, if_pos h]
theorem write_lays0 (d : Dk) (t : Nat × ByteArray) (l : List (Nat × ByteArray)) (h : (d.writeR t.1 t.2).1 = 10) : d.lays (t :: l) = d.writeR t.1 t.2 := by rw [Dk.lays, if_neg (by omega)]
theorem lays_one (d : Dk) (t : Nat × ByteArray) : d.lays [t] = d.writeR t.1 t.2 := by
  rw [Dk.lays]
  split
  · rename_i h
    generalize d.writeR t.1 t.2 = r at *
    obtain ⟨a, b⟩ := r
    dsimp only at h; subst h; rfl
  · rfl
set_option maxHeartbeats 4000000 in
set_option maxRecDepth 100000 in
theorem lay_does (p q : Nat) (d : Dk) (k j : Nat) (frm many first u : Nat) (a : Option Addr) (n cap : Nat) (C : List Ch) (hD : DkOk k j d) (hj : j ≤ 900000) (hC : C.length = n) (hn : n ≤ 12) (hok : ∀ c ∈ C, ChOk c)
    (hu : u + n + 1 ≤ many) (hlen : frm + many ≤ k) (hk : k ≤ 1000) (hfi : first ≤ 10000000) {φ : World → Prop} (hφ : ∀ w, φ w → LibOk w ∧ ValsAt w a (chs C)) :
    Does Tryd.prog 71 #[.pointer (some ⟨q, 0, none⟩), .slice a n cap] [Var q [.pointer (some ⟨p, 0, none⟩), .int .i64 frm, .int .i64 many, .int .i64 first, .int .i64 u] 108, DiskR p d, .imm φ]
      (fun _ : Unit => (errV (d.lays (lws frm many first u C)).1, [Var q [.pointer (some ⟨p, 0, none⟩), .int .i64 frm, .int .i64 many, .int .i64 first, .int .i64 u] 108, DiskR p (d.lays (lws frm many first u C)).2, .imm φ])) := by
  intro S W w L0 hO
  simp only [List.cons_append, List.nil_append] at hO
  have HOK := Lib.hid hok
  have HRES := Lib.hid (rfl : d.lays (lws frm many first u C) = d.lays (lws frm many first u C))
  generalize hres : d.lays (lws frm many first u C) = res at HRES ⊢
  clear HRES
  have HRES := Lib.hid hres
  clear hres hok
  ((try clear hf); have hf := hO.facts; (try simp only [FX, Nat.zero_add, Nat.reduceAdd, and_true, true_and, List.map_cons, List.map_nil, List.cons_append, List.nil_append] at hf))
  go_enter Tryd.func71, Tryd.ntmps71
  go_wp2_with (first | ((first | with_reducible refine wpList_alloc_own hO ?_ | with_reducible refine wpList_drew_own hO ?_ | with_reducible refine wp_alloc_own hO ?_ | with_reducible refine wp_drew_own hO ?_ | with_reducible refine bodyPost_alloc_own hO ?_ | with_reducible refine bodyPost_drew_own hO ?_ | ((first | with_reducible apply wpList_set_own | with_reducible apply wp_set_own | with_reducible apply bodyPost_set_own); (focus (first | (with_reducible apply Own.set; (focus (with_reducible apply hO)); (repeat (first | with_reducible exact Put.here _ _ _ | with_reducible apply Put.there)); done) | (with_reducible apply Own.setRow; (focus (with_reducible apply hO)); (focus (repeat (first | with_reducible exact Put.here _ _ _ | with_reducible apply Put.there))); first | assumption | (simp; omega) | (simp; assumption)) | ((repeat' (first | with_reducible apply hO | with_reducible apply Own.set)); all_goals (repeat (first | with_reducible exact Put.here _ _ _ | with_reducible apply Put.there)); done))))); clear hO; intro w9 hO; (try dsimp only [List.set] at hO); ((try clear hf); have hf := hO.facts; (try simp only [FX, Nat.zero_add, Nat.reduceAdd, and_true, true_and, List.map_cons, List.map_nil, List.cons_append, List.nil_append] at hf))))
  (refine wp_region_run (fun _ => True) (fun _ _ _ _ => trivial) trivial ((0, 0) :: (0, 1) :: (0, 2) :: (1, 3) :: (0, 4) :: (0, 5) :: (0, 6) :: (1, 7) :: (0, 8) :: (0, 9) :: []) (by kernel_rfl) (by kernel_rfl) rfl (fun _ _ d _ _ h => by cases d <;> exact h) ?_; intro w9 hx9; replace hO := hO.ext hx9; clear hx9; ((try clear hf); have hf := hO.facts; (try simp only [FX, Nat.zero_add, Nat.reduceAdd, and_true, true_and, List.map_cons, List.map_nil, List.cons_append, List.nil_append] at hf)); (repeat (first | (apply inRun_p _ rfl rfl rfl; focus (intro w8 K8 hK8; (repeat (first | go_skip | go_guarded | go_step)); exact hK8)) | (apply inRun_l _ rfl rfl rfl; focus (intro w8 hx8 K8 hK8; have hO := hO.ext hx8; ((try clear hf); have hf := hO.facts; (try simp only [FX, Nat.zero_add, Nat.reduceAdd, and_true, true_and, List.map_cons, List.map_nil, List.cons_append, List.nil_append] at hf)); skip; (repeat (first | go_skip | go_guarded | go_step)); exact hK8)) | (apply inRun_q _ rfl; (focus (intro w8 hx8 K8 hK8; have hO := hO.ext hx8; ((try clear hf); have hf := hO.facts; (try simp only [FX, Nat.zero_add, Nat.reduceAdd, and_true, true_and, List.map_cons, List.map_nil, List.cons_append, List.nil_append] at hf)); (repeat (first | go_skip | go_guarded | go_step | fail)); (first | exact (by repeat (first | exact Ext.refl _ | assumption | refine Ext.of_drew ?_ | refine Ext.alloc ?_ _ | refine Ext.drew ?_ | refine Ext.trans ?_ (by assumption))) | exact hK8 _ (by repeat (first | exact Ext.refl _ | assumption | refine Ext.of_drew ?_ | refine Ext.alloc ?_ _ | refine Ext.drew ?_ | refine Ext.trans ?_ (by assumption)))))); (focus (exact rfl)); intro w8 hx8; replace hO := hO.ext hx8; clear hx8; ((try clear hf); have hf := hO.facts; (try simp only [FX, Nat.zero_add, Nat.reduceAdd, and_true, true_and, List.map_cons, List.map_nil, List.cons_append, List.nil_append] at hf))))))
  refine inRun_nil ?_
  go_wp2_with (first | ((first | with_reducible refine wpList_alloc_own hO ?_ | with_reducible refine wpList_drew_own hO ?_ | with_reducible refine wp_alloc_own hO ?_ | with_reducible refine wp_drew_own hO ?_ | with_reducible refine bodyPost_alloc_own hO ?_ | with_reducible refine bodyPost_drew_own hO ?_ | ((first | with_reducible apply wpList_set_own | with_reducible apply wp_set_own | with_reducible apply bodyPost_set_own); (focus (first | (with_reducible apply Own.set; (focus (with_reducible apply hO)); (repeat (first | with_reducible exact Put.here _ _ _ | with_reducible apply Put.there)); done) | (with_reducible apply Own.setRow; (focus (with_reducible apply hO)); (focus (repeat (first | with_reducible exact Put.here _ _ _ | with_reducible apply Put.there))); first | assumption | (simp; omega) | (simp; assumption)) | ((repeat' (first | with_reducible apply hO | with_reducible apply Own.set)); all_goals (repeat (first | with_reducible exact Put.here _ _ _ | with_reducible apply Put.there)); done))))); clear hO; intro w9 hO; (try dsimp only [List.set] at hO); ((try clear hf); have hf := hO.facts; (try simp only [FX, Nat.zero_add, Nat.reduceAdd, and_true, true_and, List.map_cons, List.map_nil, List.cons_append, List.nil_append] at hf))))
  have hO9 := hO
  clear hO hf
  go_loopw [22] (fun v wr => ∃ (i : Nat) (e : Dk), v = .int .i64 i ∧ i ≤ n ∧ Hid (d.lays (ows (frm + u) (first + u) (C.take i)) = (0, e)) ∧ DkOk k (j + i) e ∧ Own S W wr ([Var q [.pointer (some ⟨p, 0, none⟩), .int .i64 frm, .int .i64 many, .int .i64 first, .int .i64 u] 108, DiskR p e, .imm φ] ++ L0)) (fun v _ => n - (intOf v).toNat)
  case atStart => exact ⟨0, d, rfl, by omega, Lib.hid rfl, hD, hO9⟩
  case round =>
    clear hO9
    obtain ⟨i, e, rfl, hi, HE, hDe, hO⟩ := hrel
    rename World => w1
    simp only [List.cons_append, List.nil_append] at hO
    ((try clear hf); have hf := hO.facts; (try simp only [FX, Nat.zero_add, Nat.reduceAdd, and_true, true_and, List.map_cons, List.map_nil, List.cons_append, List.nil_append] at hf))
    by_cases hlt : i < n
    · have hi2 : i < C.length := by omega
      obtain ⟨b, off, rfl⟩ := ChAt.some (a := a) ((hφ _ (Own.immOf (φ := φ) hO (by repeat (first | with_reducible exact Pick.here _ _ | with_reducible apply Pick.there)))).2) (by omega)
      obtain ⟨c0, c1, c2⟩ := ChAt.at (w := w1) (l := C) (b := b) (off := off) ((hφ _ (Own.immOf (φ := φ) hO (by repeat (first | with_reducible exact Pick.here _ _ | with_reducible apply Pick.there)))).2) hi2
      have hcok := HOK.out _ (List.getElem_mem hi2)
      have hsp := Lib.hid (ows_split (frm + u) (first + u) C hi2)
      have hsu := Lib.hid (ows_succ (frm + u) (first + u) C hi2)
      generalize C[i] = c at *
      have hks := key_size hcok.1
      have hvs := hcok.2.2
      have hbs := bytes_size hcok
      have HB := fun w h => bytes_ok c w h (by omega) (by omega) hcok
      rw [show errV 0 = .nilIface from rfl] at HB
      unfold Ch.v at HB
      have HT := fun w => text_any 111 (first + u + i) (bytesC c) w (.inl rfl) (by omega) hbs
      have hts : (secB 111 (first + u + i) (bytesC c)).size ≤ 96 := by rw [secB_size]; omega
      rw [show UInt8.ofNat (111 : Int).toNat = 111 from rfl, show ((first + u + i : Nat) : Int) = (first : Int) + u + i from by omega] at HT
      have HW := write_does p e ((frm + u + i : Nat) : Int) (secB 111 (first + u + i) (bytesC c)) hDe.f1 hDe.f2 (by have := hDe.wait; omega)
      have hcd := write_code2 (d := e) (n := frm + u + i) (by rw [hDe.now]; omega) hts
      have hD2 := hDe.write ((frm + u + i : Nat) : Int) (secB 111 (first + u + i) (bytesC c))
      have hl1 := fun (h : (e.writeR ((frm + u + i : Nat) : Int) (secB 111 (first + u + i) (bytesC c))).1 = 0) (l : List (Nat × ByteArray)) => write_lays1 e (frm + u + i, secB 111 (first + u + i) (bytesC c)) l h
      have hl0 := fun (h : (e.writeR ((frm + u + i : Nat) : Int) (secB 111 (first + u + i) (bytesC c))).1 = 10) (l : List (Nat × ByteArray)) => write_lays0 e (frm + u + i, secB 111 (first + u + i) (bytesC c)) l h
      generalize secB 111 (first + u + i) (bytesC c) = z at *
      generalize bytesC c = y at *
      dsimp only at hl1 hl0
      rw [show ((frm + u + i : Nat) : Int) = (frm : Int) + u + i from by omega] at HW hcd hD2 hl1 hl0
      generalize e.writeR ((frm : Int) + u + i) z = r at *
      obtain ⟨rc, e2⟩ := r
      dsimp only at HW hcd hD2 hl1 hl0
      clear hcok
      rcases hcd with rfl | rfl
      · rw [show errV 0 = .nilIface from rfl] at HW
        have HE2 := Lib.hid (show d.lays (ows (frm + u) (first + u) (C.take (i + 1))) = (0, e2) by
          rw [hsu.out, lays_at HE.out, hl1 rfl]; rfl)
        clear hl1 hl0 HE
        go_wp2_with (first | (go_at_call 93; (with_reducible apply Calls.mono (HB _ (hφ _ (Own.immOf (φ := φ) hO (by repeat (first | with_reducible exact Pick.here _ _ | with_reducible apply Pick.there)))).1); rintro e8 w8 ⟨rfl, hx8⟩; replace hO := hO.ext hx8; clear hx8; dsimp only; ((try clear hf); have hf := hO.facts; (try simp only [FX, Nat.zero_add, Nat.reduceAdd, and_true, true_and, List.map_cons, List.map_nil, List.cons_append, List.nil_append] at hf)))) | ((first | with_reducible refine wpList_alloc_own hO ?_ | with_reducible refine wpList_drew_own hO ?_ | with_reducible refine wp_alloc_own hO ?_ | with_reducible refine wp_drew_own hO ?_ | with_reducible refine bodyPost_alloc_own hO ?_ | with_reducible refine bodyPost_drew_own hO ?_ | ((first | with_reducible apply wpList_set_own | with_reducible apply wp_set_own | with_reducible apply bodyPost_set_own); (focus (first | (with_reducible apply Own.set; (focus (with_reducible apply hO)); (repeat (first | with_reducible exact Put.here _ _ _ | with_reducible apply Put.there)); done) | (with_reducible apply Own.setRow; (focus (with_reducible apply hO)); (focus (repeat (first | with_reducible exact Put.here _ _ _ | with_reducible apply Put.there))); first | assumption | (simp; omega) | (simp; assumption)) | ((repeat' (first | with_reducible apply hO | with_reducible apply Own.set)); all_goals (repeat (first | with_reducible exact Put.here _ _ _ | with_reducible apply Put.there)); done))))); clear hO; intro w9 hO; (try dsimp only [List.set] at hO); ((try clear hf); have hf := hO.facts; (try simp only [FX, Nat.zero_add, Nat.reduceAdd, and_true, true_and, List.map_cons, List.map_nil, List.cons_append, List.nil_append] at hf))))
        (refine wp_region_run (fun _ => True) (fun _ _ _ _ => trivial) trivial ((0, 0) :: (0, 1) :: (0, 2) :: (1, 3) :: (0, 4) :: (0, 5) :: (0, 6) :: (0, 7) :: (0, 8) :: (0, 9) :: (1, 10) :: (0, 11) :: (0, 12) :: (0, 13) :: (1, 14) :: (0, 15) :: (0, 16) :: (0, 17) :: (0, 18) :: (3, 19) :: (5, 20) :: (0, 21) :: []) (by kernel_rfl) (by kernel_rfl) rfl (fun _ _ d _ _ h => by cases d <;> exact h) ?_; intro w9 hx9; replace hO := hO.ext hx9; clear hx9; ((try clear hf); have hf := hO.facts; (try simp only [FX, Nat.zero_add, Nat.reduceAdd, and_true, true_and, List.map_cons, List.map_nil, List.cons_append, List.nil_append] at hf)); (repeat (first | (apply inRun_p _ rfl rfl rfl; focus (intro w8 K8 hK8; (repeat (first | go_skip | go_guarded | go_step)); exact hK8)) | (apply inRun_l _ rfl rfl rfl; focus (intro w8 hx8 K8 hK8; have hO := hO.ext hx8; ((try clear hf); have hf := hO.facts; (try simp only [FX, Nat.zero_add, Nat.reduceAdd, and_true, true_and, List.map_cons, List.map_nil, List.cons_append, List.nil_append] at hf)); skip; (repeat (first | go_skip | go_guarded | go_step)); exact hK8)) | (apply inRun_q _ rfl; (focus (intro w8 hx8 K8 hK8; have hO := hO.ext hx8; ((try clear hf); have hf := hO.facts; (try simp only [FX, Nat.zero_add, Nat.reduceAdd, and_true, true_and, List.map_cons, List.map_nil, List.cons_append, List.nil_append] at hf)); (repeat (first | go_skip | go_guarded | go_step | (go_at_call 74; (with_reducible refine Calls.mono (HT _) ?_; rintro e7 w7 ⟨rfl, hx7⟩; dsimp only)))); (first | exact (by repeat (first | exact Ext.refl _ | assumption | refine Ext.of_drew ?_ | refine Ext.alloc ?_ _ | refine Ext.drew ?_ | refine Ext.trans ?_ (by assumption))) | exact hK8 _ (by repeat (first | exact Ext.refl _ | assumption | refine Ext.of_drew ?_ | refine Ext.alloc ?_ _ | refine Ext.drew ?_ | refine Ext.trans ?_ (by assumption)))))); (focus (exact rfl)); intro w8 hx8; replace hO := hO.ext hx8; clear hx8; ((try clear hf); have hf := hO.facts; (try simp only [FX, Nat.zero_add, Nat.reduceAdd, and_true, true_and, List.map_cons, List.map_nil, List.cons_append, List.nil_append] at hf))))))
        (refine inRun_d rfl ?_; intro K8 hK8; (repeat (first | go_skip | go_guarded | go_step)); (go_at_call 13; (with_reducible refine Does.use hO (HW) (by repeat (first | with_reducible exact Takes.nil _ | with_reducible apply Takes.cons | with_reducible exact Pick.here _ _ | with_reducible apply Pick.there)) ?_; clear hO; intro x9 w9 hO; dsimp only at hO ⊢; simp only [List.cons_append, List.nil_append] at hO; ((try clear hf); have hf := hO.facts; (try simp only [FX, Nat.zero_add, Nat.reduceAdd, and_true, true_and, List.map_cons, List.map_nil, List.cons_append, List.nil_append] at hf)))); (repeat go_step); refine hK8 _ _ trivial ?_; clear hK8 K8)
        (repeat (first | (apply inRun_p _ rfl rfl rfl; focus (intro w8 K8 hK8; (repeat (first | go_skip | go_guarded | go_step)); exact hK8)) | (apply inRun_l _ rfl rfl rfl; focus (intro w8 hx8 K8 hK8; have hO := hO.ext hx8; ((try clear hf); have hf := hO.facts; (try simp only [FX, Nat.zero_add, Nat.reduceAdd, and_true, true_and, List.map_cons, List.map_nil, List.cons_append, List.nil_append] at hf)); skip; (repeat (first | go_skip | go_guarded | go_step)); exact hK8)) | (apply inRun_q _ rfl; (focus (intro w8 hx8 K8 hK8; have hO := hO.ext hx8; ((try clear hf); have hf := hO.facts; (try simp only [FX, Nat.zero_add, Nat.reduceAdd, and_true, true_and, List.map_cons, List.map_nil, List.cons_append, List.nil_append] at hf)); (repeat (first | go_skip | go_guarded | go_step | fail)); (first | exact (by repeat (first | exact Ext.refl _ | assumption | refine Ext.of_drew ?_ | refine Ext.alloc ?_ _ | refine Ext.drew ?_ | refine Ext.trans ?_ (by assumption))) | exact hK8 _ (by repeat (first | exact Ext.refl _ | assumption | refine Ext.of_drew ?_ | refine Ext.alloc ?_ _ | refine Ext.drew ?_ | refine Ext.trans ?_ (by assumption)))))); (focus (exact rfl)); intro w8 hx8; replace hO := hO.ext hx8; clear hx8; ((try clear hf); have hf := hO.facts; (try simp only [FX, Nat.zero_add, Nat.reduceAdd, and_true, true_and, List.map_cons, List.map_nil, List.cons_append, List.nil_append] at hf)))))
        refine inRun_nil ?_
        go_wp2_with (first | ((first | with_reducible refine wpList_alloc_own hO ?_ | with_reducible refine wpList_drew_own hO ?_ | with_reducible refine wp_alloc_own hO ?_ | with_reducible refine wp_drew_own hO ?_ | with_reducible refine bodyPost_alloc_own hO ?_ | with_reducible refine bodyPost_drew_own hO ?_ | ((first | with_reducible apply wpList_set_own | with_reducible apply wp_set_own | with_reducible apply bodyPost_set_own); (focus (first | (with_reducible apply Own.set; (focus (with_reducible apply hO)); (repeat (first | with_reducible exact Put.here _ _ _ | with_reducible apply Put.there)); done) | (with_reducible apply Own.setRow; (focus (with_reducible apply hO)); (focus (repeat (first | with_reducible exact Put.here _ _ _ | with_reducible apply Put.there))); first | assumption | (simp; omega) | (simp; assumption)) | ((repeat' (first | with_reducible apply hO | with_reducible apply Own.set)); all_goals (repeat (first | with_reducible exact Put.here _ _ _ | with_reducible apply Put.there)); done))))); clear hO; intro w9 hO; (try dsimp only [List.set] at hO); ((try clear hf); have hf := hO.facts; (try simp only [FX, Nat.zero_add, Nat.reduceAdd, and_true, true_and, List.map_cons, List.map_nil, List.cons_append, List.nil_append] at hf))))
        refine ⟨⟨i + 1, e2, by go_num, by omega, HE2, hD2, ?_⟩, by simp [intOf]; omega⟩
        (try simp only [List.cons_append, List.nil_append])
        exact hO.cut (by repeat (first | with_reducible apply Sub.cons | with_reducible exact Pick.here _ _ | with_reducible apply Pick.there | with_reducible apply Sub.base | with_reducible exact Keeps.here _ | with_reducible apply Keeps.skip))
      · have HR := Lib.hid (show res = (10, e2) by
          rw [← HRES.out, lws, hsp.out, List.append_assoc, lays_at HE.out, List.cons_append, hl0 rfl])
        clear hl1 hl0 HE HRES
        obtain rfl := HR.out
        clear HR
        (try dsimp only at HW); (try dsimp only)
        rw [show errV 10 = .iface 97 (.int .i64 10) from rfl] at HW
        go_wp2_with (first | (go_at_call 93; (with_reducible apply Calls.mono (HB _ (hφ _ (Own.immOf (φ := φ) hO (by repeat (first | with_reducible exact Pick.here _ _ | with_reducible apply Pick.there)))).1); rintro e8 w8 ⟨rfl, hx8⟩; replace hO := hO.ext hx8; clear hx8; dsimp only; ((try clear hf); have hf := hO.facts; (try simp only [FX, Nat.zero_add, Nat.reduceAdd, and_true, true_and, List.map_cons, List.map_nil, List.cons_append, List.nil_append] at hf)))) | ((first | with_reducible refine wpList_alloc_own hO ?_ | with_reducible refine wpList_drew_own hO ?_ | with_reducible refine wp_alloc_own hO ?_ | with_reducible refine wp_drew_own hO ?_ | with_reducible refine bodyPost_alloc_own hO ?_ | with_reducible refine bodyPost_drew_own hO ?_ | ((first | with_reducible apply wpList_set_own | with_reducible apply wp_set_own | with_reducible apply bodyPost_set_own); (focus (first | (with_reducible apply Own.set; (focus (with_reducible apply hO)); (repeat (first | with_reducible exact Put.here _ _ _ | with_reducible apply Put.there)); done) | (with_reducible apply Own.setRow; (focus (with_reducible apply hO)); (focus (repeat (first | with_reducible exact Put.here _ _ _ | with_reducible apply Put.there))); first | assumption | (simp; omega) | (simp; assumption)) | ((repeat' (first | with_reducible apply hO | with_reducible apply Own.set)); all_goals (repeat (first | with_reducible exact Put.here _ _ _ | with_reducible apply Put.there)); done))))); clear hO; intro w9 hO; (try dsimp only [List.set] at hO); ((try clear hf); have hf := hO.facts; (try simp only [FX, Nat.zero_add, Nat.reduceAdd, and_true, true_and, List.map_cons, List.map_nil, List.cons_append, List.nil_append] at hf))))
        (refine wp_region_run (fun _ => True) (fun _ _ _ _ => trivial) trivial ((0, 0) :: (0, 1) :: (0, 2) :: (1, 3) :: (0, 4) :: (0, 5) :: (0, 6) :: (0, 7) :: (0, 8) :: (0, 9) :: (1, 10) :: (0, 11) :: (0, 12) :: (0, 13) :: (1, 14) :: (0, 15) :: (0, 16) :: (0, 17) :: (0, 18) :: (3, 19) :: (5, 20) :: (0, 21) :: []) (by kernel_rfl) (by kernel_rfl) rfl (fun _ _ d _ _ h => by cases d <;> exact h) ?_; intro w9 hx9; replace hO := hO.ext hx9; clear hx9; ((try clear hf); have hf := hO.facts; (try simp only [FX, Nat.zero_add, Nat.reduceAdd, and_true, true_and, List.map_cons, List.map_nil, List.cons_append, List.nil_append] at hf)); (repeat (first | (apply inRun_p _ rfl rfl rfl; focus (intro w8 K8 hK8; (repeat (first | go_skip | go_guarded | go_step)); exact hK8)) | (apply inRun_l _ rfl rfl rfl; focus (intro w8 hx8 K8 hK8; have hO := hO.ext hx8; ((try clear hf); have hf := hO.facts; (try simp only [FX, Nat.zero_add, Nat.reduceAdd, and_true, true_and, List.map_cons, List.map_nil, List.cons_append, List.nil_append] at hf)); skip; (repeat (first | go_skip | go_guarded | go_step)); exact hK8)) | (apply inRun_q _ rfl; (focus (intro w8 hx8 K8 hK8; have hO := hO.ext hx8; ((try clear hf); have hf := hO.facts; (try simp only [FX, Nat.zero_add, Nat.reduceAdd, and_true, true_and, List.map_cons, List.map_nil, List.cons_append, List.nil_append] at hf)); (repeat (first | go_skip | go_guarded | go_step | (go_at_call 74; (with_reducible refine Calls.mono (HT _) ?_; rintro e7 w7 ⟨rfl, hx7⟩; dsimp only)))); (first | exact (by repeat (first | exact Ext.refl _ | assumption | refine Ext.of_drew ?_ | refine Ext.alloc ?_ _ | refine Ext.drew ?_ | refine Ext.trans ?_ (by assumption))) | exact hK8 _ (by repeat (first | exact Ext.refl _ | assumption | refine Ext.of_drew ?_ | refine Ext.alloc ?_ _ | refine Ext.drew ?_ | refine Ext.trans ?_ (by assumption)))))); (focus (exact rfl)); intro w8 hx8; replace hO := hO.ext hx8; clear hx8; ((try clear hf); have hf := hO.facts; (try simp only [FX, Nat.zero_add, Nat.reduceAdd, and_true, true_and, List.map_cons, List.map_nil, List.cons_append, List.nil_append] at hf))))))
        (refine inRun_d rfl ?_; intro K8 hK8; (repeat (first | go_skip | go_guarded | go_step)); (go_at_call 13; (with_reducible refine Does.use hO (HW) (by repeat (first | with_reducible exact Takes.nil _ | with_reducible apply Takes.cons | with_reducible exact Pick.here _ _ | with_reducible apply Pick.there)) ?_; clear hO; intro x9 w9 hO; dsimp only at hO ⊢; simp only [List.cons_append, List.nil_append] at hO; ((try clear hf); have hf := hO.facts; (try simp only [FX, Nat.zero_add, Nat.reduceAdd, and_true, true_and, List.map_cons, List.map_nil, List.cons_append, List.nil_append] at hf)))); (repeat go_step); refine hK8 _ _ trivial ?_; clear hK8 K8)
        (repeat (first | (apply inRun_p _ rfl rfl rfl; focus (intro w8 K8 hK8; (repeat (first | go_skip | go_guarded | go_step)); exact hK8)) | (apply inRun_l _ rfl rfl rfl; focus (intro w8 hx8 K8 hK8; have hO := hO.ext hx8; ((try clear hf); have hf := hO.facts; (try simp only [FX, Nat.zero_add, Nat.reduceAdd, and_true, true_and, List.map_cons, List.map_nil, List.cons_append, List.nil_append] at hf)); skip; (repeat (first | go_skip | go_guarded | go_step)); exact hK8)) | (apply inRun_q _ rfl; (focus (intro w8 hx8 K8 hK8; have hO := hO.ext hx8; ((try clear hf); have hf := hO.facts; (try simp only [FX, Nat.zero_add, Nat.reduceAdd, and_true, true_and, List.map_cons, List.map_nil, List.cons_append, List.nil_append] at hf)); (repeat (first | go_skip | go_guarded | go_step | fail)); (first | exact (by repeat (first | exact Ext.refl _ | assumption | refine Ext.of_drew ?_ | refine Ext.alloc ?_ _ | refine Ext.drew ?_ | refine Ext.trans ?_ (by assumption))) | exact hK8 _ (by repeat (first | exact Ext.refl _ | assumption | refine Ext.of_drew ?_ | refine Ext.alloc ?_ _ | refine Ext.drew ?_ | refine Ext.trans ?_ (by assumption)))))); (focus (exact rfl)); intro w8 hx8; replace hO := hO.ext hx8; clear hx8; ((try clear hf); have hf := hO.facts; (try simp only [FX, Nat.zero_add, Nat.reduceAdd, and_true, true_and, List.map_cons, List.map_nil, List.cons_append, List.nil_append] at hf)))))
        refine inRun_nil ?_
        go_wp2_with (first | ((first | with_reducible refine wpList_alloc_own hO ?_ | with_reducible refine wpList_drew_own hO ?_ | with_reducible refine wp_alloc_own hO ?_ | with_reducible refine wp_drew_own hO ?_ | with_reducible refine bodyPost_alloc_own hO ?_ | with_reducible refine bodyPost_drew_own hO ?_ | ((first | with_reducible apply wpList_set_own | with_reducible apply wp_set_own | with_reducible apply bodyPost_set_own); (focus (first | (with_reducible apply Own.set; (focus (with_reducible apply hO)); (repeat (first | with_reducible exact Put.here _ _ _ | with_reducible apply Put.there)); done) | (with_reducible apply Own.setRow; (focus (with_reducible apply hO)); (focus (repeat (first | with_reducible exact Put.here _ _ _ | with_reducible apply Put.there))); first | assumption | (simp; omega) | (simp; assumption)) | ((repeat' (first | with_reducible apply hO | with_reducible apply Own.set)); all_goals (repeat (first | with_reducible exact Put.here _ _ _ | with_reducible apply Put.there)); done))))); clear hO; intro w9 hO; (try dsimp only [List.set] at hO); ((try clear hf); have hf := hO.facts; (try simp only [FX, Nat.zero_add, Nat.reduceAdd, and_true, true_and, List.map_cons, List.map_nil, List.cons_append, List.nil_append] at hf))))
        go_ret
        exact ⟨(), rfl, hO.give (by repeat (first | with_reducible exact Takes.nil _ | with_reducible apply Takes.cons | with_reducible exact Pick.here _ _ | with_reducible apply Pick.there)) (by repeat (first | exact Keeps.here _ | apply Keeps.skip))⟩
    · have HE2 : d.lays (ows (frm + u) (first + u) C) = (0, e) := by
        have := HE.out
        rwa [List.take_of_length_le (by omega)] at this
      have HR2 := HRES.out
      unfold lws at HR2
      rw [lays_at HE2, hC] at HR2
      clear HRES HE HE2
      by_cases hend : u + n + 1 < many
      · rw [if_pos hend, lays_one] at HR2
        dsimp only at HR2
        have HW := write_does p e ((frm + (u + n + 1) : Nat) : Int) ⟨#[]⟩ hDe.f1 hDe.f2 (by have := hDe.wait; omega)
        rw [HR2, show ((frm + (u + n + 1) : Nat) : Int) = (frm : Int) + ((u : Int) + n + 1) from by omega] at HW
        obtain ⟨rc, e2⟩ := res
        dsimp only at HW ⊢
        clear HR2
        go_wp2_with (first | ((first | with_reducible refine wpList_alloc_own hO ?_ | with_reducible refine wpList_drew_own hO ?_ | with_reducible refine wp_alloc_own hO ?_ | with_reducible refine wp_drew_own hO ?_ | with_reducible refine bodyPost_alloc_own hO ?_ | with_reducible refine bodyPost_drew_own hO ?_ | ((first | with_reducible apply wpList_set_own | with_reducible apply wp_set_own | with_reducible apply bodyPost_set_own); (focus (first | (with_reducible apply Own.set; (focus (with_reducible apply hO)); (repeat (first | with_reducible exact Put.here _ _ _ | with_reducible apply Put.there)); done) | (with_reducible apply Own.setRow; (focus (with_reducible apply hO)); (focus (repeat (first | with_reducible exact Put.here _ _ _ | with_reducible apply Put.there))); first | assumption | (simp; omega) | (simp; assumption)) | ((repeat' (first | with_reducible apply hO | with_reducible apply Own.set)); all_goals (repeat (first | with_reducible exact Put.here _ _ _ | with_reducible apply Put.there)); done))))); clear hO; intro w9 hO; (try dsimp only [List.set] at hO); ((try clear hf); have hf := hO.facts; (try simp only [FX, Nat.zero_add, Nat.reduceAdd, and_true, true_and, List.map_cons, List.map_nil, List.cons_append, List.nil_append] at hf))))
        (refine wp_region_run (fun _ => True) (fun _ _ _ _ => trivial) trivial ((0, 0) :: (0, 1) :: (0, 2) :: (1, 3) :: (0, 4) :: (0, 5) :: (0, 6) :: (1, 7) :: (0, 8) :: (0, 9) :: (5, 10) :: (0, 11) :: []) (by kernel_rfl) (by kernel_rfl) rfl (fun _ _ d _ _ h => by cases d <;> exact h) ?_; intro w9 hx9; replace hO := hO.ext hx9; clear hx9; ((try clear hf); have hf := hO.facts; (try simp only [FX, Nat.zero_add, Nat.reduceAdd, and_true, true_and, List.map_cons, List.map_nil, List.cons_append, List.nil_append] at hf)); (repeat (first | (apply inRun_p _ rfl rfl rfl; focus (intro w8 K8 hK8; (repeat (first | go_skip | go_guarded | go_step)); exact hK8)) | (apply inRun_l _ rfl rfl rfl; focus (intro w8 hx8 K8 hK8; have hO := hO.ext hx8; ((try clear hf); have hf := hO.facts; (try simp only [FX, Nat.zero_add, Nat.reduceAdd, and_true, true_and, List.map_cons, List.map_nil, List.cons_append, List.nil_append] at hf)); skip; (repeat (first | go_skip | go_guarded | go_step)); exact hK8)) | (apply inRun_q _ rfl; (focus (intro w8 hx8 K8 hK8; have hO := hO.ext hx8; ((try clear hf); have hf := hO.facts; (try simp only [FX, Nat.zero_add, Nat.reduceAdd, and_true, true_and, List.map_cons, List.map_nil, List.cons_append, List.nil_append] at hf)); (repeat (first | go_skip | go_guarded | go_step | fail)); (first | exact (by repeat (first | exact Ext.refl _ | assumption | refine Ext.of_drew ?_ | refine Ext.alloc ?_ _ | refine Ext.drew ?_ | refine Ext.trans ?_ (by assumption))) | exact hK8 _ (by repeat (first | exact Ext.refl _ | assumption | refine Ext.of_drew ?_ | refine Ext.alloc ?_ _ | refine Ext.drew ?_ | refine Ext.trans ?_ (by assumption)))))); (focus (exact rfl)); intro w8 hx8; replace hO := hO.ext hx8; clear hx8; ((try clear hf); have hf := hO.facts; (try simp only [FX, Nat.zero_add, Nat.reduceAdd, and_true, true_and, List.map_cons, List.map_nil, List.cons_append, List.nil_append] at hf))))))
        (refine inRun_d rfl ?_; intro K8 hK8; (repeat (first | go_skip | go_guarded | go_step)); (go_at_call 13; (with_reducible refine Does.use hO (HW) (by repeat (first | with_reducible exact Takes.nil _ | with_reducible apply Takes.cons | with_reducible exact Pick.here _ _ | with_reducible apply Pick.there)) ?_; clear hO; intro x9 w9 hO; dsimp only at hO ⊢; simp only [List.cons_append, List.nil_append] at hO; ((try clear hf); have hf := hO.facts; (try simp only [FX, Nat.zero_add, Nat.reduceAdd, and_true, true_and, List.map_cons, List.map_nil, List.cons_append, List.nil_append] at hf)))); (repeat go_step); refine hK8 _ _ trivial ?_; clear hK8 K8)
        (repeat (first | (apply inRun_p _ rfl rfl rfl; focus (intro w8 K8 hK8; (repeat (first | go_skip | go_guarded | go_step)); exact hK8)) | (apply inRun_l _ rfl rfl rfl; focus (intro w8 hx8 K8 hK8; have hO := hO.ext hx8; ((try clear hf); have hf := hO.facts; (try simp only [FX, Nat.zero_add, Nat.reduceAdd, and_true, true_and, List.map_cons, List.map_nil, List.cons_append, List.nil_append] at hf)); skip; (repeat (first | go_skip | go_guarded | go_step)); exact hK8)) | (apply inRun_q _ rfl; (focus (intro w8 hx8 K8 hK8; have hO := hO.ext hx8; ((try clear hf); have hf := hO.facts; (try simp only [FX, Nat.zero_add, Nat.reduceAdd, and_true, true_and, List.map_cons, List.map_nil, List.cons_append, List.nil_append] at hf)); (repeat (first | go_skip | go_guarded | go_step | fail)); (first | exact (by repeat (first | exact Ext.refl _ | assumption | refine Ext.of_drew ?_ | refine Ext.alloc ?_ _ | refine Ext.drew ?_ | refine Ext.trans ?_ (by assumption))) | exact hK8 _ (by repeat (first | exact Ext.refl _ | assumption | refine Ext.of_drew ?_ | refine Ext.alloc ?_ _ | refine Ext.drew ?_ | refine Ext.trans ?_ (by assumption)))))); (focus (exact rfl)); intro w8 hx8; replace hO := hO.ext hx8; clear hx8; ((try clear hf); have hf := hO.facts; (try simp only [FX, Nat.zero_add, Nat.reduceAdd, and_true, true_and, List.map_cons, List.map_nil, List.cons_append, List.nil_append] at hf)))))
        refine inRun_nil ?_
        go_wp2_with (first | ((first | with_reducible refine wpList_alloc_own hO ?_ | with_reducible refine wpList_drew_own hO ?_ | with_reducible refine wp_alloc_own hO ?_ | with_reducible refine wp_drew_own hO ?_ | with_reducible refine bodyPost_alloc_own hO ?_ | with_reducible refine bodyPost_drew_own hO ?_ | ((first | with_reducible apply wpList_set_own | with_reducible apply wp_set_own | with_reducible apply bodyPost_set_own); (focus (first | (with_reducible apply Own.set; (focus (with_reducible apply hO)); (repeat (first | with_reducible exact Put.here _ _ _ | with_reducible apply Put.there)); done) | (with_reducible apply Own.setRow; (focus (with_reducible apply hO)); (focus (repeat (first | with_reducible exact Put.here _ _ _ | with_reducible apply Put.there))); first | assumption | (simp; omega) | (simp; assumption)) | ((repeat' (first | with_reducible apply hO | with_reducible apply Own.set)); all_goals (repeat (first | with_reducible exact Put.here _ _ _ | with_reducible apply Put.there)); done))))); clear hO; intro w9 hO; (try dsimp only [List.set] at hO); ((try clear hf); have hf := hO.facts; (try simp only [FX, Nat.zero_add, Nat.reduceAdd, and_true, true_and, List.map_cons, List.map_nil, List.cons_append, List.nil_append] at hf))))
        go_ret
        exact ⟨(), rfl, hO.give (by repeat (first | with_reducible exact Takes.nil _ | with_reducible apply Takes.cons | with_reducible exact Pick.here _ _ | with_reducible apply Pick.there)) (by repeat (first | exact Keeps.here _ | apply Keeps.skip))⟩
      · rw [if_neg hend, Dk.lays] at HR2
        subst HR2
        go_wp2_with (first | ((first | with_reducible refine wpList_alloc_own hO ?_ | with_reducible refine wpList_drew_own hO ?_ | with_reducible refine wp_alloc_own hO ?_ | with_reducible refine wp_drew_own hO ?_ | with_reducible refine bodyPost_alloc_own hO ?_ | with_reducible refine bodyPost_drew_own hO ?_ | ((first | with_reducible apply wpList_set_own | with_reducible apply wp_set_own | with_reducible apply bodyPost_set_own); (focus (first | (with_reducible apply Own.set; (focus (with_reducible apply hO)); (repeat (first | with_reducible exact Put.here _ _ _ | with_reducible apply Put.there)); done) | (with_reducible apply Own.setRow; (focus (with_reducible apply hO)); (focus (repeat (first | with_reducible exact Put.here _ _ _ | with_reducible apply Put.there))); first | assumption | (simp; omega) | (simp; assumption)) | ((repeat' (first | with_reducible apply hO | with_reducible apply Own.set)); all_goals (repeat (first | with_reducible exact Put.here _ _ _ | with_reducible apply Put.there)); done))))); clear hO; intro w9 hO; (try dsimp only [List.set] at hO); ((try clear hf); have hf := hO.facts; (try simp only [FX, Nat.zero_add, Nat.reduceAdd, and_true, true_and, List.map_cons, List.map_nil, List.cons_append, List.nil_append] at hf))))
        go_ret
        exact ⟨(), rfl, hO.give (by repeat (first | with_reducible exact Takes.nil _ | with_reducible apply Takes.cons | with_reducible exact Pick.here _ _ | with_reducible apply Pick.there)) (by repeat (first | exact Keeps.here _ | apply Keeps.skip))⟩
end Go.Proofs.YtpdnlgopbnkdhaaDoor
