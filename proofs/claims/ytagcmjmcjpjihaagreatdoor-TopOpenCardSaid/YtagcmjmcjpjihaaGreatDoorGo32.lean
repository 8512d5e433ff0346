/- Texts Ver4 of this claim, laid together. -/
import Derived.Test.YtagcmjmcjpjihaaGreatDoorGo19
import Derived.Test.YtagcmjmcjpjihaaGreatDoorGo29
set_option linter.unusedVariables false
set_option linter.unusedSimpArgs false
set_option maxHeartbeats 8000000
set_option maxRecDepth 100000
namespace Go.Proofs.YtagcmjmcjpjihaaGreatDoor
open Go.RowKit
noncomputable def zAp : Option ByteArray → List Ch → Nat
 | _, [] => 0
 | p, c :: l => if chN c ≠ 0 then chN c else if (match p with | none => false | some k => !slt k c.key) then 3 else zAp (some c.key) l
noncomputable def zA9 (C : List Ch) : Nat := zAp none C
def prv (C : List Ch) (i : Nat) : Option ByteArray := if i = 0 then none else (C[i - 1]?).map Ch.key
def putV (n : Nat) : List (ByteArray × List Vn) → Ch → List (ByteArray × List Vn)
 | [], c => [(c.key, [⟨n, c.val, c.gone⟩])]
 | e :: V, c => if e.1 = c.key then (e.1, e.2 ++ [⟨n, c.val, c.gone⟩]) :: V else e :: putV n V c
noncomputable def zA3 (nn : Nat) (C : List Ch) (V : List (ByteArray × List Vn)) : List (ByteArray × List Vn) := if zA9 C = 0 then C.foldl (putV (nn + 1)) V else V
noncomputable def comR (nn : Nat) (C : List Ch) : Nat := if zA9 C = 0 then nn + 1 else 0
noncomputable def comN (nn : Nat) (C : List Ch) : Nat := if zA9 C = 0 then nn + 1 else nn
theorem zJv {nn : Nat} {C : List Ch} {V : List (ByteArray × List Vn)} (h : zA9 C ≠ 0) : comR nn C = 0 ∧ comN nn C = nn ∧ zA3 nn C V = V := by
 unfold comR comN zA3
 rw [if_neg h, if_neg h, if_neg h]
 exact ⟨rfl, rfl, rfl⟩
theorem zIV {nn : Nat} {C : List Ch} {V : List (ByteArray × List Vn)} (h : zA9 C = 0) : comR nn C = nn + 1 ∧ comN nn C = nn + 1 ∧ zA3 nn C V = C.foldl (putV (nn + 1)) V := by
 unfold comR comN zA3
 rw [if_pos h, if_pos h, if_pos h]
 exact ⟨rfl, rfl, rfl⟩
theorem zLI {p : Option ByteArray} {c : Ch} {l : List Ch} (h : chN c ≠ 0) : zAp p (c :: l) = chN c := by unfold zAp; rw [if_pos h]
theorem zNE {c : Ch} {l : List Ch} (h : chN c = 0) : zAp none (c :: l) = zAp (some c.key) l := by
 rw [zAp, if_neg (fun h' => h' h)]
 rfl
theorem zQ0 {k : ByteArray} {c : Ch} {l : List Ch} (h : chN c = 0) (h2 : slt k c.key = true) : zAp (some k) (c :: l) = zAp (some c.key) l := by
 rw [zAp, if_neg (fun h' => h' h), if_neg (by simp [h2])]
theorem zNT {k : ByteArray} {c : Ch} {l : List Ch} (h : chN c = 0) (h2 : slt k c.key = false) : zAp (some k) (c :: l) = 3 := by
 rw [zAp, if_neg (fun h' => h' h), if_pos (by simp [h2])]
theorem zLO {n : Nat} {c : Ch} : ∀ {L : List VE}, (∀ x ∈ L, x.key ≠ c.key) → putV n (L.map VE.kv) c = L.map VE.kv ++ [(c.key, [⟨n, c.val, c.gone⟩])]
 | [], _ => rfl
 | x :: L, h => by
  rw [List.map_cons, putV, if_neg (show ¬ (VE.kv x).1 = c.key from h x (List.mem_cons_self ..)), zLO fun y hy => h y (List.mem_cons_of_mem _ hy)]
  rfl
theorem zMD {n : Nat} {c : Ch} {e e' : VE} {B : List VE} (hk : e.key = c.key) (hk' : e'.key = c.key) (hv : e'.vs = e.vs ++ [⟨n, c.val, c.gone⟩]) : ∀ {A : List VE}, (∀ x ∈ A, x.key ≠ c.key) → putV n ((A ++ e :: B).map VE.kv) c = (A ++ e' :: B).map VE.kv
 | [], _ => by
  rw [List.nil_append, List.map_cons, putV, if_pos (show (VE.kv e).1 = c.key from hk), List.nil_append, List.map_cons]
  have : ((VE.kv e).1, (VE.kv e).2 ++ [⟨n, c.val, c.gone⟩]) = VE.kv e' := by
   unfold VE.kv; rw [hv, hk, hk']
  rw [this]
 | x :: A, h => by
  have h1 := zMD (B := B) hk hk' hv (A := A) fun y hy => h y (List.mem_cons_of_mem _ hy)
  rw [List.cons_append, List.map_cons, putV, if_neg (show ¬ (VE.kv x).1 = c.key from h x (List.mem_cons_self ..)), h1]
  rfl
theorem zJu (p nn : Nat) (V : List (ByteArray × List Vn)) (a : Option Addr) (n cap : Nat) (C : List Ch) (hn : C.length = n) (hn2 : n ≤ 100) (hs : ∀ c ∈ C, c.key.size ≤ 100 ∧ c.val.size ≤ 200) (hnn : nn ≤ 1000000) (hV : ∀ e ∈ V, e.2.length ≤ 100000)
 {φ : World → Prop} (hφ : ∀ w, φ w → LibOk w ∧ ValsAt w a (chs C)) :
 Does Tryz.prog 72 #[.pointer (some ⟨p, 0, none⟩), .slice a n cap] [VerR p nn V, .imm φ]
  (fun _ : Unit => (.tuple #[.int .i64 (comR nn C), errV (zA9 C)], [VerR p (comN nn C) (zA3 nn C V), .imm φ])) := by
 obtain ⟨iV, hiV, hzV, hsV, hbV⟩ := info_parts Tryz.infoVn
 have HS := Lib.hid hs
 clear hs
 intro S W w L0 hO; simp only [CA] at hO
 obtain ⟨⟨b, clock, L⟩, hO⟩ := hO.ofEx; replace hO := hO.unpack; dsimp only at hO; simp only [CA] at hO; (replace hf := fa_ hO)
 have hVk : L.map VE.kv = V ∧ VesOk L clock := hO.factOf (r := .pure (L.map VE.kv = V ∧ VesOk L clock)) pk_
 obtain ⟨hVe, hok⟩ := hVk
 subst hVe
 go_enter Tryz.func72, Tryz.ntmps72
 go_wp2_with (refine sq_ ?_; clear hO; (try clear hf); intro w9 hO hf)
 have hO9 := hO
 clear hO hf
 go_loopw [13] (fun v wr => ∃ i : Nat, v = .int .i64 i ∧ i ≤ n ∧ Hid (zAp (prv C i) (C.drop i) = zA9 C) ∧ Own S W wr ([Var p [.map (some b), .int .i64 nn] 236, MapR b (L.map VE.en) clock, Rows L, .imm φ] ++ L0)) (fun v _ => n - (intOf v).toNat)
 case atStart => exact ⟨0, rfl, by omega, Lib.hid rfl, by (try simp only [CA]); exact hO9.cut sb_⟩
 case round =>
  clear hO9
  obtain ⟨i, rfl, hi, HD, hO⟩ := hrel
  rename World => w1
  simp only [List.cons_append, List.nil_append] at hO
  (replace hf := fa_ hO)
  by_cases hlt : i < n
  ·have hi2 : i < C.length := by omega
   obtain ⟨b1, off, rfl⟩ := ChAt.some (a := a) ((hφ _ (Own.immOf (φ := φ) hO pk_)).2) (by omega)
   have HN := Lib.hid (show prv C (i + 1) = some C[i].key by unfold prv; rw [if_neg (by omega), Nat.add_sub_cancel, List.getElem?_eq_getElem hi2]; rfl)
   have HDR := Lib.hid (List.drop_eq_getElem_cons hi2)
   have hsz := HS.out _ (List.getElem_mem hi2)
   have hcy := fun w h => ChAt.at (w := w) (l := C) (b := b1) (off := off) ((hφ w h).2) hi2
   cases i with
   | zero =>
    generalize C[0] = c at *
    simp only [Nat.zero_mul, Nat.add_zero] at hcy
    have HB := fun w h => zAl c w h (by omega) (by omega)
    unfold Ch.v at HB
    obtain ⟨c0, c1, c2⟩ := hcy _ (Own.immOf (φ := φ) hO pk_)
    by_cases hf0 : chN c = 0
    ·rw [hf0, show errV 0 = .nilIface from rfl] at HB
     go_wp2_with (first | (go_at_call 149; (with_reducible apply Calls.mono (HB _ (hφ _ (Own.immOf (φ := φ) hO pk_)).1); refine cu_ ?_; clear hO; (try clear hf); intro w8 hO hf)) | (refine sq_ ?_; clear hO; (try clear hf); intro w9 hO hf))
     (refine rg_ hO ((0, 0) :: (0, 1) :: (0, 2) :: (0, 3) :: (0, 4) :: (0, 5) :: (0, 6) :: (0, 7) :: (1, 8) :: (0, 9) :: (1, 10) :: (0, 11) :: (0, 12) :: []) ?_; clear hO; intro w9 hO; replace hf := fa_ hO; (refine ss_ hO ?_; clear hO; (try clear hf); intro w9 hO hf))
     refine zAA ?_
     go_wp2_with (refine sq_ ?_; clear hO; (try clear hf); intro w9 hO hf)
     refine ⟨⟨1, rfl, by omega, Lib.hid (by rw [HN.out, ← zNE hf0, ← HDR.out]; exact HD.out), ?_⟩, by simp [intOf]; omega⟩
     (try simp only [CA])
     exact hO.cut sb_
    ·have HE := Lib.hid (show zA9 C = chN c by rw [← HD.out, HDR.out]; exact zLI hf0)
     have HX := Lib.hid (show zA9 C ≠ 0 by rw [HE.out]; exact hf0)
     have HV := Lib.hid (show errV (zA9 C) = .iface 124 (.int .i64 (chN c)) by rw [HE.out]; unfold errV; rw [if_neg hf0])
     rw [show errV (chN c) = .iface 124 (.int .i64 (chN c)) by unfold errV; rw [if_neg hf0]] at HB
     clear hf0
     go_wp2_with (first | (go_at_call 149; (with_reducible apply Calls.mono (HB _ (hφ _ (Own.immOf (φ := φ) hO pk_)).1); refine cu_ ?_; clear hO; (try clear hf); intro w8 hO hf)) | (refine sq_ ?_; clear hO; (try clear hf); intro w9 hO hf))
     obtain ⟨x1, x2, x3⟩ := zJv (nn := nn) (V := L.map VE.kv) HX.out; rw [x1, x2, x3]; have hO := hO.toPure (p := L.map VE.kv = L.map VE.kv ∧ VesOk L clock) ⟨rfl, hok⟩
     rw [HV.out]
     (go_ret2; refine ⟨(), rfl, ?_⟩; (try simp only [CA]); (refine Own.toEx (b, clock, L) (Own.pack ?_); dsimp only; exact hO.give tk_ kp_))
   | succ j =>
    have hj2 : j < C.length := by omega
    have hcx := fun w h => (ChAt.at (w := w) (l := C) (b := b1) (off := off) ((hφ w h).2) hj2).1
    have HP := Lib.hid (show prv C (j + 1) = some C[j].key by unfold prv; rw [if_neg (by omega), Nat.add_sub_cancel, List.getElem?_eq_getElem hj2]; rfl)
    generalize C[j] = x at *
    generalize C[j + 1] = c at *
    have HB := fun w h => zAl c w h (by omega) (by omega)
    unfold Ch.v at HB
    obtain ⟨c0, c1, c2⟩ := hcy _ (Own.immOf (φ := φ) hO pk_)
    by_cases hf0 : chN c = 0
    ·rw [hf0, show errV 0 = .nilIface from rfl] at HB
     cases hs : slt x.key c.key with
     | true =>
      have HU := Lib.hid (zQ0 (l := C.drop (j + 1 + 1)) hf0 hs)
      have hs2 := zBq hs
      have hne := zBi hs
      have hs3 : ¬ c.key.toList = x.key.toList := fun e => hne (zBL e.symm)
      clear hne
      unfold slt at hs hs2
      go_wp2_with (first | (go_at_call 149; (with_reducible apply Calls.mono (HB _ (hφ _ (Own.immOf (φ := φ) hO pk_)).1); refine cu_ ?_; clear hO; (try clear hf); intro w8 hO hf)) | (refine sq_ ?_; clear hO; (try clear hf); intro w9 hO hf))
      (refine rg_ hO ((0, 0) :: (0, 1) :: (0, 2) :: (0, 3) :: (0, 4) :: (0, 5) :: (0, 6) :: (0, 7) :: (1, 8) :: (0, 9) :: (1, 10) :: (0, 11) :: (0, 12) :: []) ?_; clear hO; intro w9 hO; replace hf := fa_ hO; (repeat (first | (apply zAG _ rfl rfl rfl; focus (intro w8 K8 hK8; (repeat (first | go_skip | go_guarded | go_step)); exact hK8)) | (apply zAK _ rfl rfl rfl; focus (intro w8 hx8 K8 hK8; have hO := hO.ext hx8; (replace hf := fa_ hO); have c0 := hcx _ (Own.immOf (φ := φ) hO pk_); (repeat (first | go_skip | go_guarded | go_step)); exact hK8)) | (apply zAL _ rfl; (focus (intro w8 hx8 K8 hK8; have hO := hO.ext hx8; (replace hf := fa_ hO); (repeat (first | go_skip | go_guarded | go_step | fail)); (first | exact xt_ | exact hK8 _ xt_))); (focus (exact rfl)); intro w8 hx8; replace hO := hO.ext hx8; clear hx8; (replace hf := fa_ hO)))))
      refine zAA ?_
      go_wp2_with (refine sq_ ?_; clear hO; (try clear hf); intro w9 hO hf)
      refine ⟨⟨j + 1 + 1, by go_num, by omega, Lib.hid (by rw [HN.out, ← HU.out, ← HDR.out, ← HP.out]; exact HD.out), ?_⟩, by simp [intOf]; omega⟩
      (try simp only [CA])
      exact hO.cut sb_
     | false =>
      have HU := Lib.hid (zNT (l := C.drop (j + 1 + 1)) hf0 hs)
      have hs3 : slt c.key x.key = true ∨ c.key = x.key := by
       rcases zCc x.key c.key with h | h | h
       ·rw [h] at hs; cases hs
       ·exact .inr h.symm
       ·exact .inl h
      unfold slt at hs hs3
      go_wp2_with (first | (go_at_call 149; (with_reducible apply Calls.mono (HB _ (hφ _ (Own.immOf (φ := φ) hO pk_)).1); refine cu_ ?_; clear hO; (try clear hf); intro w8 hO hf)) | (refine sq_ ?_; clear hO; (try clear hf); intro w9 hO hf))
      (refine rg_ hO ((0, 0) :: (0, 1) :: (0, 2) :: (0, 3) :: (0, 4) :: (0, 5) :: (0, 6) :: (0, 7) :: (1, 8) :: (0, 9) :: (1, 10) :: (0, 11) :: (0, 12) :: []) ?_; clear hO; intro w9 hO; replace hf := fa_ hO; (repeat (first | (apply zAG _ rfl rfl rfl; focus (intro w8 K8 hK8; (repeat (first | go_skip | go_guarded | go_step)); exact hK8)) | (apply zAK _ rfl rfl rfl; focus (intro w8 hx8 K8 hK8; have hO := hO.ext hx8; (replace hf := fa_ hO); have c0 := hcx _ (Own.immOf (φ := φ) hO pk_); (repeat (first | go_skip | go_guarded | go_step)); exact hK8)) | (apply zAL _ rfl; (focus (intro w8 hx8 K8 hK8; have hO := hO.ext hx8; (replace hf := fa_ hO); (repeat (first | go_skip | go_guarded | go_step | fail)); (first | exact xt_ | exact hK8 _ xt_))); (focus (exact rfl)); intro w8 hx8; replace hO := hO.ext hx8; clear hx8; (replace hf := fa_ hO)))))
      refine zAA ?_
      go_wp2_with (refine sq_ ?_; clear hO; (try clear hf); intro w9 hO hf)
      have HE := Lib.hid (show zA9 C = 3 by rw [← HD.out, HP.out, HDR.out]; exact HU.out)
      have HX := Lib.hid (show zA9 C ≠ 0 by rw [HE.out]; decide)
      have HV := Lib.hid (show errV (zA9 C) = .iface 124 (.int .i64 3) by rw [HE.out]; rfl)
      obtain ⟨x1, x2, x3⟩ := zJv (nn := nn) (V := L.map VE.kv) HX.out; rw [x1, x2, x3]; have hO := hO.toPure (p := L.map VE.kv = L.map VE.kv ∧ VesOk L clock) ⟨rfl, hok⟩
      rw [HV.out]
      (go_ret2; refine ⟨(), rfl, ?_⟩; (try simp only [CA]); (refine Own.toEx (b, clock, L) (Own.pack ?_); dsimp only; exact hO.give tk_ kp_))
    ·have HE := Lib.hid (show zA9 C = chN c by rw [← HD.out, HDR.out]; exact zLI hf0)
     have HX := Lib.hid (show zA9 C ≠ 0 by rw [HE.out]; exact hf0)
     have HV := Lib.hid (show errV (zA9 C) = .iface 124 (.int .i64 (chN c)) by rw [HE.out]; unfold errV; rw [if_neg hf0])
     rw [show errV (chN c) = .iface 124 (.int .i64 (chN c)) by unfold errV; rw [if_neg hf0]] at HB
     clear hf0
     go_wp2_with (first | (go_at_call 149; (with_reducible apply Calls.mono (HB _ (hφ _ (Own.immOf (φ := φ) hO pk_)).1); refine cu_ ?_; clear hO; (try clear hf); intro w8 hO hf)) | (refine sq_ ?_; clear hO; (try clear hf); intro w9 hO hf))
     obtain ⟨x1, x2, x3⟩ := zJv (nn := nn) (V := L.map VE.kv) HX.out; rw [x1, x2, x3]; have hO := hO.toPure (p := L.map VE.kv = L.map VE.kv ∧ VesOk L clock) ⟨rfl, hok⟩
     rw [HV.out]
     (go_ret2; refine ⟨(), rfl, ?_⟩; (try simp only [CA]); (refine Own.toEx (b, clock, L) (Own.pack ?_); dsimp only; exact hO.give tk_ kp_))
  ·have H0 := Lib.hid (show zA9 C = 0 by rw [← HD.out, List.drop_of_length_le (by omega)]; unfold zAp; rfl)
   go_wp2_with (refine sq_ ?_; clear hO; (try clear hf); intro w9 hO hf)
   have hO9 := hO
   rw [show ((nn : Int) + 1) = ((nn + 1 : Nat) : Int) from by omega] at hO9
   clear hO hf
   go_loopw [47] (fun v wr => ∃ (i clock : Nat) (L' : List VE), v = .int .i64 i ∧ i ≤ n ∧ Hid (L'.map VE.kv = (C.take i).foldl (putV (nn + 1)) (L.map VE.kv) ∧ VesOk L' clock ∧ ∀ e ∈ L', e.vs.length ≤ 100000 + i) ∧ Own S W wr ([Var p [.map (some b), .int .i64 (nn + 1 : Nat)] 236, MapR b (L'.map VE.en) clock, Rows L', .imm φ] ++ L0)) (fun v _ => n - (intOf v).toNat)
   case atStart => exact ⟨0, clock, L, rfl, by omega, Lib.hid ⟨rfl, hok, fun e he => hV e.kv (List.mem_map.2 ⟨e, he, rfl⟩)⟩, by (try simp only [CA]); exact hO9.cut sb_⟩
   case round =>
    clear hO9 HD hi hlt
    obtain ⟨i, clock', L', rfl, hi, HL, hO⟩ := hrel
    rename World => w2
    simp only [List.cons_append, List.nil_append] at hO
    (replace hf := fa_ hO)
    by_cases hlt : i < n
    ·have hi2 : i < C.length := by omega
     obtain ⟨b1, off, rfl⟩ := ChAt.some (a := a) ((hφ _ (Own.immOf (φ := φ) hO pk_)).2) (by omega)
     have HT := Lib.hid (show C.take (i + 1) = C.take i ++ [C[i]] by rw [List.take_add_one, List.getElem?_eq_getElem hi2]; rfl)
     have hcy := fun w h => ChAt.at (w := w) (l := C) (b := b1) (off := off) ((hφ w h).2) hi2
     obtain ⟨c0, c1, c2⟩ := hcy _ (Own.immOf (φ := φ) hO pk_)
     generalize C[i] = c at *
     rcases zH6 c.key L' with ⟨hno, hne⟩ | ⟨A, e, B, rfl, hek, hA⟩
     ·have hat := hno
      go_wp2_with (refine sq_ ?_; clear hO; (try clear hf); intro w9 hO hf)
      (refine zAX (fun w8 => Own _ _ w8 (Var p [.map (some b), .int .i64 (nn + 1 : Nat)] 236 :: Var _ [.string c.key, .string c.val, .bool c.gone] 142 :: L0)) (fun _ _ h hx => h.ext hx) (hO.cut sb_) ((0, 0) :: (0, 1) :: (0, 2) :: (2, 3) :: (0, 4) :: (2, 5) :: (0, 6) :: (0, 7) :: (0, 8) :: (2, 9) :: (0, 10) :: (2, 11) :: (1, 12) :: (0, 13) :: (0, 14) :: (0, 15) :: (2, 16) :: (0, 17) :: (2, 18) :: (0, 19) :: (2, 20) :: (0, 21) :: (4, 22) :: (5, 23) :: (5, 24) :: []) (by kernel_rfl) (by kernel_rfl) rfl (fun _ _ d _ _ h => by cases d <;> exact h) ?_; intro w9 hx9; replace hO := hO.ext hx9; clear hx9; (replace hf := fa_ hO); (repeat (first | (apply zAG _ rfl rfl rfl; focus (intro w8 K8 hK8; (repeat (first | go_skip | go_guarded | go_step)); exact hK8)) | (apply zCH _ rfl rfl rfl; focus (intro w8 hI8 K8 hK8; (try clear hf); have hf := hI8.facts; (try simp only [FZ, Nat.reduceAdd] at hf); skip; (repeat (first | go_skip | go_guarded | go_step)); exact hK8)))))
      have hz := Tryz.zeroVs
      have hv : (getE c.key (L'.map VE.en)).getD (.slice none 0 0) = .slice none 0 0 := by rw [hno]; rfl
      (apply zAK _ rfl rfl rfl; focus (intro w8 hx8 K8 hK8; have hO := hO.ext hx8; (repeat (first | go_skip | go_guarded)); refine zDm (show (MapR b (List.map VE.en L') clock').facts _ from hO.factOf (r := MapR b _ clock') pk_).1 rfl _ _ rfl Tryz.underlying234 Tryz.underlying9 _ (hz _) rfl rfl (.slice none 0 0) hv ?_; (repeat go_step); exact hK8))
      (repeat (first | (apply zAG _ rfl rfl rfl; focus (intro w8 K8 hK8; (repeat (first | go_skip | go_guarded | go_step)); exact hK8)) | (apply zCH _ rfl rfl rfl; focus (intro w8 hI8 K8 hK8; (try clear hf); have hf := hI8.facts; (try simp only [FZ, Nat.reduceAdd] at hf); skip; (repeat (first | go_skip | go_guarded | go_step)); exact hK8))))
      (refine zBf rfl ?_; intro K8 hK8; (repeat (first | go_skip | go_guarded | go_step)); refine hK8 _ _ xt_ ?_; clear hK8 K8; with_reducible refine zAT hO ?_; clear hO; intro w9 hO; (replace hf := fa_ hO))
      obtain ⟨g, hg9⟩ := (hO.pick (r := Var _ [.int .i64 ((nn : Int) + 1), .string c.val, .bool c.gone] 239) pk_).named
      rw [← hg9]; rw [← hg9, show ((nn : Int) + 1) = ((nn + 1 : Nat) : Int) from by omega] at hO; clear hg9
      have hO := hO.nil 239 3
      (replace hf := fa_ hO)
      (repeat (first | (apply zAG _ rfl rfl rfl; focus (intro w8 K8 hK8; (repeat (first | go_skip | go_guarded | go_step)); exact hK8)) | (apply zCH _ rfl rfl rfl; focus (intro w8 hI8 K8 hK8; (try clear hf); have hf := hI8.facts; (try simp only [FZ, Nat.reduceAdd] at hf); skip; (repeat (first | go_skip | go_guarded | go_step)); exact hK8))))
      (refine zAE rfl ?_; intro K8 hK8; (repeat (first | go_skip | go_guarded)); refine zAH hO pk_ pk_ rfl (.tmp 63) (.tmp 73) 237 rfl iV _ 32 Tryz.underlying237 hiV hzV hsV hbV rfl (by omega) rfl _ _ rfl (by rfl) (by repeat (first | exact zAq | refine zAf rfl ?_)) (by unfold maxLen; omega) (by omega) ?_; clear hO; intro ka9 kc9 w9 hO; (replace hf := fa_ hO); (repeat go_step); refine hK8 _ _ (hO.cut sb_) ?_; clear hK8 K8)
      (repeat (first | (apply zAG _ rfl rfl rfl; focus (intro w8 K8 hK8; (repeat (first | go_skip | go_guarded | go_step)); exact hK8)) | (apply zCH _ rfl rfl rfl; focus (intro w8 hI8 K8 hK8; (try clear hf); have hf := hI8.facts; (try simp only [FZ, Nat.reduceAdd] at hf); skip; (repeat (first | go_skip | go_guarded | go_step)); exact hK8))))
      (refine zAE rfl ?_; intro K8 hK8; (repeat (first | go_skip | go_guarded)); refine zCx hO pk_ rfl _ _ _ rfl Tryz.underlying234 Tryz.underlying9 rfl rfl (.slice ka9 1 kc9) rfl hno ?_; clear hO; intro w9 hO; (replace hf := fa_ hO); go_step; refine hK8 _ _ (hO.cut sb_) ?_; clear hK8 K8)
      refine zAA ?_
      go_wp2_with (refine sq_ ?_; clear hO; (try clear hf); intro w9 hO hf)
      have h8 := (hO.pick (r := Rows L') pk_).pick (r := Row2 239 3 ka9 _ kc9 _) pk_
      have hm : L'.map VE.en ++ [⟨c.key, .slice ka9 1 kc9, clock'⟩] = (L' ++ [(⟨c.key, clock', ka9, kc9, [⟨nn + 1, c.val, c.gone⟩]⟩ : VE)]).map VE.en := by rw [List.map_append]; rfl
      rw [hm] at h8
      have hO := Own.inRow (L := L' ++ [⟨c.key, clock', ka9, kc9, [⟨nn + 1, c.val, c.gone⟩]⟩]) (L' := L') (e := ⟨c.key, clock', ka9, kc9, [⟨nn + 1, c.val, c.gone⟩]⟩) h8 (List.perm_append_singleton _ _)
      refine ⟨⟨i + 1, clock' + 1, L' ++ [⟨c.key, clock', ka9, kc9, [⟨nn + 1, c.val, c.gone⟩]⟩], by go_num, by omega, Lib.hid ⟨?_, HL.out.2.1.add _ hne rfl, ?_⟩, ?_⟩, by simp [intOf]; omega⟩
      ·rw [HT.out, List.foldl_append, ← HL.out.1, List.foldl_cons, List.foldl_nil, zLO hne, List.map_append]; rfl
      ·intro x hx
       rcases List.mem_append.1 hx with hx | hx
       ·have := HL.out.2.2 x hx; omega
       ·simp at hx; rw [hx]; simp; omega
      ·(try simp only [CA])
       exact hO.cut sb_
     ·have hlen8 : e.vs.length ≤ 100000 + i := HL.out.2.2 e (List.mem_append_right _ (List.mem_cons_self ..))
      have HK := Lib.hid hek
      clear hek
      have hz := Tryz.zeroVs
      have hv : (getE c.key ((A ++ e :: B).map VE.en)).getD (.slice none 0 0) = .slice e.addr e.vs.length e.cap := by rw [zGF HK.out hA]; rfl
      have hin : (getE c.key ((A ++ e :: B).map VE.en)).isSome = true := by rw [zGF HK.out hA]; rfl
      have h8 := Own.outRow (e := e) (hO.pick (r := Rows (A ++ e :: B)) pk_) List.perm_middle
      unfold VE.row at h8
      clear hO
      have hO := h8
      clear h8
      (replace hf := fa_ hO)
      go_wp2_with (refine sq_ ?_; clear hO; (try clear hf); intro w9 hO hf)
      (refine zAX (fun w8 => Own _ _ w8 (Var p [.map (some b), .int .i64 (nn + 1 : Nat)] 236 :: Var _ [.string c.key, .string c.val, .bool c.gone] 142 :: L0)) (fun _ _ h hx => h.ext hx) (hO.cut sb_) ((0, 0) :: (0, 1) :: (0, 2) :: (2, 3) :: (0, 4) :: (2, 5) :: (0, 6) :: (0, 7) :: (0, 8) :: (2, 9) :: (0, 10) :: (2, 11) :: (1, 12) :: (0, 13) :: (0, 14) :: (0, 15) :: (2, 16) :: (0, 17) :: (2, 18) :: (0, 19) :: (2, 20) :: (0, 21) :: (4, 22) :: (5, 23) :: (5, 24) :: []) (by kernel_rfl) (by kernel_rfl) rfl (fun _ _ d _ _ h => by cases d <;> exact h) ?_; intro w9 hx9; replace hO := hO.ext hx9; clear hx9; (replace hf := fa_ hO); (repeat (first | (apply zAG _ rfl rfl rfl; focus (intro w8 K8 hK8; (repeat (first | go_skip | go_guarded | go_step)); exact hK8)) | (apply zCH _ rfl rfl rfl; focus (intro w8 hI8 K8 hK8; (try clear hf); have hf := hI8.facts; (try simp only [FZ, Nat.reduceAdd] at hf); skip; (repeat (first | go_skip | go_guarded | go_step)); exact hK8)))))
      (apply zAK _ rfl rfl rfl; focus (intro w8 hx8 K8 hK8; have hO := hO.ext hx8; (repeat (first | go_skip | go_guarded)); refine zDm (show (MapR b (List.map VE.en (A ++ e :: B)) clock').facts _ from hO.factOf (r := MapR b _ clock') pk_).1 rfl _ _ rfl Tryz.underlying234 Tryz.underlying9 _ (hz _) rfl rfl (.slice e.addr e.vs.length e.cap) hv ?_; (repeat go_step); exact hK8))
      (repeat (first | (apply zAG _ rfl rfl rfl; focus (intro w8 K8 hK8; (repeat (first | go_skip | go_guarded | go_step)); exact hK8)) | (apply zCH _ rfl rfl rfl; focus (intro w8 hI8 K8 hK8; (try clear hf); have hf := hI8.facts; (try simp only [FZ, Nat.reduceAdd] at hf); skip; (repeat (first | go_skip | go_guarded | go_step)); exact hK8))))
      (refine zBf rfl ?_; intro K8 hK8; (repeat (first | go_skip | go_guarded | go_step)); refine hK8 _ _ xt_ ?_; clear hK8 K8; with_reducible refine zAT hO ?_; clear hO; intro w9 hO; (replace hf := fa_ hO))
      obtain ⟨g, hg9⟩ := (hO.pick (r := Var _ [.int .i64 ((nn : Int) + 1), .string c.val, .bool c.gone] 239) pk_).named
      rw [← hg9]; rw [← hg9, show ((nn : Int) + 1) = ((nn + 1 : Nat) : Int) from by omega] at hO; clear hg9
      (replace hf := fa_ hO)
      (repeat (first | (apply zAG _ rfl rfl rfl; focus (intro w8 K8 hK8; (repeat (first | go_skip | go_guarded | go_step)); exact hK8)) | (apply zCH _ rfl rfl rfl; focus (intro w8 hI8 K8 hK8; (try clear hf); have hf := hI8.facts; (try simp only [FZ, Nat.reduceAdd] at hf); skip; (repeat (first | go_skip | go_guarded | go_step)); exact hK8))))
      (refine zAE rfl ?_; intro K8 hK8; (repeat (first | go_skip | go_guarded)); refine zAH hO pk_ pk_ rfl (.tmp 63) (.tmp 73) 237 rfl iV _ 32 Tryz.underlying237 hiV hzV hsV hbV rfl (by omega) rfl _ _ rfl (by rfl) (by repeat (first | exact zAq | refine zAf rfl ?_)) (by unfold maxLen; omega) (by omega) ?_; clear hO; intro ka9 kc9 w9 hO; (replace hf := fa_ hO); (repeat go_step); refine hK8 _ _ (hO.cut sb_) ?_; clear hK8 K8)
      (repeat (first | (apply zAG _ rfl rfl rfl; focus (intro w8 K8 hK8; (repeat (first | go_skip | go_guarded | go_step)); exact hK8)) | (apply zCH _ rfl rfl rfl; focus (intro w8 hI8 K8 hK8; (try clear hf); have hf := hI8.facts; (try simp only [FZ, Nat.reduceAdd] at hf); skip; (repeat (first | go_skip | go_guarded | go_step)); exact hK8))))
      (refine zAE rfl ?_; intro K8 hK8; (repeat (first | go_skip | go_guarded)); refine zBn hO pk_ rfl _ _ _ rfl Tryz.underlying234 Tryz.underlying9 rfl rfl (.slice ka9 (e.vs.length + 1) kc9) rfl hin ?_; clear hO; intro w9 hO; (replace hf := fa_ hO); go_step; refine hK8 _ _ (hO.cut sb_) ?_; clear hK8 K8)
      refine zAA ?_
      go_wp2_with (refine sq_ ?_; clear hO; (try clear hf); intro w9 hO hf)
      have hm := zC7 (e := e) (e' := ⟨c.key, e.born, ka9, kc9, e.vs ++ [⟨nn + 1, c.val, c.gone⟩]⟩) (B := B) HK.out rfl rfl hA
      have hval : (VE.en ⟨c.key, e.born, ka9, kc9, e.vs ++ [⟨nn + 1, c.val, c.gone⟩]⟩).val = .slice ka9 (e.vs.length + 1) kc9 := by simp [VE.en]
      rw [hval] at hm
      rw [hm] at hO
      have hrow : VE.row ⟨c.key, e.born, ka9, kc9, e.vs ++ [⟨nn + 1, c.val, c.gone⟩]⟩ = Row2 239 3 ka9 (e.vs.length + 1) kc9 (e.vs.flatMap verC ++ [.int .i64 (nn + 1 : Nat), .string c.val, .bool c.gone]) := by
       unfold VE.row
       simp only [List.length_append, List.flatMap_append]
       rfl
      have h8 := (hO.pick (r := Rows (A ++ B)) pk_).pick (r := Row2 239 3 ka9 _ kc9 _) pk_
      have hO := Own.inRow (L := A ++ ⟨c.key, e.born, ka9, kc9, e.vs ++ [⟨nn + 1, c.val, c.gone⟩]⟩ :: B) (L' := A ++ B) (e := ⟨c.key, e.born, ka9, kc9, e.vs ++ [⟨nn + 1, c.val, c.gone⟩]⟩) (by rw [hrow]; exact h8) List.perm_middle
      refine ⟨⟨i + 1, clock', A ++ ⟨c.key, e.born, ka9, kc9, e.vs ++ [⟨nn + 1, c.val, c.gone⟩]⟩ :: B, by go_num, by omega, Lib.hid ⟨?_, HL.out.2.1.put HK.out.symm rfl, ?_⟩, ?_⟩, by simp [intOf]; omega⟩
      ·rw [HT.out, List.foldl_append, ← HL.out.1, List.foldl_cons, List.foldl_nil, zMD (e' := ⟨c.key, e.born, ka9, kc9, e.vs ++ [⟨nn + 1, c.val, c.gone⟩]⟩) HK.out rfl rfl hA]
      ·intro x hx
       rcases List.mem_append.1 hx with hx | hx
       ·have := HL.out.2.2 x (List.mem_append_left _ hx); omega
       ·rcases List.mem_cons.1 hx with rfl | hx
        ·simp; omega
        ·have := HL.out.2.2 x (List.mem_append_right _ (List.mem_cons_of_mem _ hx)); omega
      ·(try simp only [CA])
       exact hO.cut sb_
    ·have HY := Lib.hid (zIV (nn := nn) (V := L.map VE.kv) H0.out)
     have HZ := HL.out
     rw [List.take_of_length_le (by omega)] at HZ
     have HZ := Lib.hid HZ
     go_wp2_with (refine sq_ ?_; clear hO; (try clear hf); intro w9 hO hf)
     obtain ⟨x1, x2, x3⟩ := HY.out
     rw [x1, x2, x3, H0.out]
     have hO := hO.toPure (p := L'.map VE.kv = C.foldl (putV (nn + 1)) (L.map VE.kv) ∧ VesOk L' clock') ⟨HZ.out.1, HZ.out.2.1⟩
     (go_ret2; refine ⟨(), rfl, ?_⟩; (try simp only [CA]); (refine Own.toEx (b, clock', L') (Own.pack ?_); dsimp only; exact hO.give tk_ kp_))
end Go.Proofs.YtagcmjmcjpjihaaGreatDoor
