/- Texts View5, RView2, ViewSays, Views, ViewLaw, Q1, Q2, Q3, Q4, Q5, Q6, Q15, Q16, Q17, Q18, Sd5, St16, St17, St18, St19, St20, St21, St22, StoreL, TopSave of this claim, laid together. -/
import Derived.Test.YtagcmjmcjpjihaaGreatDoorGTopCountProof34
import Derived.Test.YtagcmjmcjpjihaaGreatDoorGTopCountProof33
import Derived.Test.YtagcmjmcjpjihaaGreatDoorGTopCountProof36
import Derived.Test.YtagcmjmcjpjihaaGreatDoorGTopCountProof37
import Derived.Test.YtagcmjmcjpjihaaGreatDoorGTopCountProof29
import Derived.Test.YtagcmjmcjpjihaaGreatDoorGTopCountProof31
import Derived.Test.YtagcmjmcjpjihaaGreatDoorGTopCountProof15
set_option linter.unusedVariables false
set_option linter.unusedSimpArgs false
namespace Go.Proofs.YtagcmjmcjpjihaaGreatDoor
open Go.RowKit
@[go_sem] theorem run_field_span (a b : ByteArray) (w : World) : (Instr.field 98 (.agg #[.string a, .string b]) 1).run Tryz.prog w = .ok (.string b) w := by kernel_rfl
theorem apps_ups : ∀ {C : List Ch} {l : List Rw}, RUps l → RUps (C.foldl appR l)
  | [], _, h => h
  | c :: C, l, h => apps_ups (C := C) (l := appR l c) (appF_ups h)
end Go.Proofs.YtagcmjmcjpjihaaGreatDoor
namespace Go.Proofs.YtagcmjmcjpjihaaGreatDoor
open Go.RowKit
end Go.Proofs.YtagcmjmcjpjihaaGreatDoor
namespace Go.Proofs.YtagcmjmcjpjihaaGreatDoor
open Go.RowKit
end Go.Proofs.YtagcmjmcjpjihaaGreatDoor
namespace Go.Proofs.YtagcmjmcjpjihaaGreatDoor
open Go.RowKit
end Go.Proofs.YtagcmjmcjpjihaaGreatDoor
namespace Go.Proofs.YtagcmjmcjpjihaaGreatDoor
open Go.RowKit
/-- What is known between two acts. -/
structure VwInv (C M : List Ch) (R : List Sp) : Prop where
  ups : Ups C
  c12 : C.length ≤ 12
  r40 : R.length ≤ 40
  mups : Ups M
  m12 : M.length ≤ 12
  good : ∀ c ∈ C, c.key.size ≤ 300
  mgood : ∀ c ∈ M, c.key.size ≤ 300
theorem noteR_len {R : List Sp} (s : Sp) (h : R.length ≤ 40) : (noteR R s).length ≤ 40 := by
  unfold noteR
  split
  · exact h
  · split
    · exact h
    · rw [List.length_append, List.length_singleton]; omega
theorem putL_keep {C : List Ch} (c : Ch) (hU : Ups C) (h : C.length ≤ 12) : Ups (putL C c) ∧ (putL C c).length ≤ 12 := by
  unfold putL
  split
  · rename_i h1
    refine ⟨hU.put c, ?_⟩
    unfold putN at h1
    split at h1
    · omega
    · split at h1
      · omega
      · omega
  · exact ⟨hU, h⟩
theorem putL_mem {C : List Ch} {c x : Ch} (h : x ∈ putL C c) : x = c ∨ x ∈ C := by
  unfold putL at h
  split at h
  · exact mem_put h
  · exact .inr h
theorem VwInv.put {C M : List Ch} {R : List Sp} (h : VwInv C M R) (c : Ch) (hc : c.key.size ≤ 300) : VwInv (putL C c) M R :=
  ⟨(putL_keep c h.ups h.c12).1, (putL_keep c h.ups h.c12).2, h.r40, h.mups, h.m12, fun x hx => (putL_mem hx).elim (fun e => e ▸ hc) (h.good x), h.mgood⟩
theorem newV_nodup {rows : List Rw} (h : RUps rows) : ((newV rows).map (·.1)).Nodup := by
  unfold newV
  rw [List.map_map]
  exact h.keys
theorem newV_length (rows : List Rw) : (newV rows).length = rows.length := by unfold newV; rw [List.length_map]
theorem newV_len1 (rows : List Rw) : ∀ e ∈ newV rows, e.2.length ≤ 100000 := fun e he => by
  obtain ⟨r, _, rfl⟩ := List.mem_map.1 he
  exact Nat.le_trans (Nat.le_refl 1) (by omega)
theorem VwInv.read {C M : List Ch} {R : List Sp} (h : VwInv C M R) (k : ByteArray) : VwInv C M (getB C R k) := by
  refine ⟨h.ups, h.c12, ?_, h.mups, h.m12, h.good, h.mgood⟩
  unfold getB
  split
  · exact h.r40
  · split
    · exact h.r40
    · exact noteR_len _ h.r40
theorem VwInv.scan {C M : List Ch} {R : List Sp} (h : VwInv C M R) (L : List Rw) (lo hi : ByteArray) (most : Int) : VwInv C M (scnB L R lo hi most) := by
  refine ⟨h.ups, h.c12, ?_, h.mups, h.m12, h.good, h.mgood⟩
  unfold scnB
  split
  · exact h.r40
  · exact noteR_len _ h.r40
theorem VwInv.nil : VwInv [] [] [] := ⟨List.Pairwise.nil, Nat.zero_le _, Nat.zero_le _, List.Pairwise.nil, Nat.zero_le _, fun _ h => (List.not_mem_nil h).elim, fun _ h => (List.not_mem_nil h).elim⟩
theorem keyN_le (k : ByteArray) : keyN k ≤ 3 := by unfold keyN; split <;> omega
theorem getG_le (y : ByteArray × Bool) (C : List Ch) (R : List Sp) (k : ByteArray) : (getG y C R k).2.2 ≤ 1000 := by
  unfold getG
  split
  · have := keyN_le k; exact Nat.le_trans this (by omega)
  · split
    · exact Nat.zero_le _
    · split
      · exact Nat.le_trans (noteN_le _ _) (by omega)
      · exact Nat.zero_le _
theorem scnN_le (L : List Rw) (R : List Sp) (lo hi : ByteArray) (most : Int) : scnN L R lo hi most ≤ 1000 := by
  unfold scnN
  split
  · omega
  · exact Nat.le_trans (noteN_le _ _) (by omega)
theorem putN_le (C : List Ch) (c : Ch) : putN C c ≤ 1000 := by
  unfold putN
  have := chN_le c
  split
  · omega
  · split <;> omega
end Go.Proofs.YtagcmjmcjpjihaaGreatDoor
namespace Go.Proofs.YtagcmjmcjpjihaaGreatDoor
open Go.RowKit
/-- What is found of a queue, where y stands in its row. -/
noncomputable def findN (y : ByteArray × Bool) (C : List Ch) (R : List Sp) (name : ByteArray) : Qu × Nat :=
  if ¬ NameOk name then (Qu.z, 3) else if (getG y C R (queB name)).2.2 ≠ 0 then (Qu.z, (getG y C R (queB name)).2.2) else if (getG y C R (queB name)).2.1 = false then (Qu.z, 5) else quOf (getG y C R (queB name)).1
noncomputable def findR (C : List Ch) (R : List Sp) (name : ByteArray) : List Sp := if ¬ NameOk name then R else getB C R (queB name)
theorem queB_size (a : ByteArray) : (queB a).size = a.size + 2 := by
  show (queB a).data.size = _
  unfold queB
  rw [ByteArray.data_append, ByteArray.data_append, Array.size_append, Array.size_append]
  show 1 + 1 + a.size = _
  omega
end Go.Proofs.YtagcmjmcjpjihaaGreatDoor
namespace Go.Proofs.YtagcmjmcjpjihaaGreatDoor
open Go.RowKit
noncomputable def putqN (C : List Ch) (name : ByteArray) (q : Qu) : Nat := if q.txt.2 ≠ 0 then q.txt.2 else putN C ⟨queB name, q.txt.1, false⟩
noncomputable def putqL (C : List Ch) (name : ByteArray) (q : Qu) : List Ch := if q.txt.2 ≠ 0 then C else putL C ⟨queB name, q.txt.1, false⟩
end Go.Proofs.YtagcmjmcjpjihaaGreatDoor
namespace Go.Proofs.YtagcmjmcjpjihaaGreatDoor
open Go.RowKit
theorem msgB_size (a : ByteArray) (n : Nat) : (msgB a n).size = a.size + 9 := by
  have h := six_size n
  unfold msgB
  rw [ByteArray.size_append, ByteArray.size_append, ByteArray.size_append, ByteArray.size_append, h]
  show 1 + 1 + (a.size + 1 + 6) = _
  omega
noncomputable def sendA (C : List Ch) (name : ByteArray) (u : Qu) (body : ByteArray) (til : Int) : Int × Nat × List Ch :=
  if u.next = 999999 then (0, 8, C) else if (Ms.txt ⟨0, 0, til, body⟩).2 ≠ 0 then (0, (Ms.txt ⟨0, 0, til, body⟩).2, C)
  else if putN C ⟨msgB name u.next.toNat, (Ms.txt ⟨0, 0, til, body⟩).1, false⟩ ≠ 0 then (0, putN C ⟨msgB name u.next.toNat, (Ms.txt ⟨0, 0, til, body⟩).1, false⟩, C)
  else (u.next, putqN (putL C ⟨msgB name u.next.toNat, (Ms.txt ⟨0, 0, til, body⟩).1, false⟩) name ⟨u.next + 1, u.tries, u.dead⟩, putqL (putL C ⟨msgB name u.next.toNat, (Ms.txt ⟨0, 0, til, body⟩).1, false⟩) name ⟨u.next + 1, u.tries, u.dead⟩)
end Go.Proofs.YtagcmjmcjpjihaaGreatDoor
namespace Go.Proofs.YtagcmjmcjpjihaaGreatDoor
open Go.RowKit
def badT (t : Int) : Bool := decide (t < 0) || decide (1000000 < t)
def timeN (l : List Int) : Nat := if l.any badT then 1 else 0
end Go.Proofs.YtagcmjmcjpjihaaGreatDoor
namespace Go.Proofs.YtagcmjmcjpjihaaGreatDoor
open Go.RowKit
end Go.Proofs.YtagcmjmcjpjihaaGreatDoor
namespace Go.Proofs.YtagcmjmcjpjihaaGreatDoor
open Go.RowKit
end Go.Proofs.YtagcmjmcjpjihaaGreatDoor
namespace Go.Proofs.YtagcmjmcjpjihaaGreatDoor
open Go.RowKit
def goneC (name : ByteArray) (n : Int) : Ch := ⟨msgB name n.toNat, ⟨#[]⟩, true⟩
/-- A message that was tried too often: a fault, the changes, what was read. -/
noncomputable def buryA (B : ByteArray → ByteArray × Bool) (C : List Ch) (R : List Sp) (name : ByteArray) (u : Qu) (m : Ms) : Nat × List Ch × List Sp :=
  if putN C (goneC name m.num) ≠ 0 then (putN C (goneC name m.num), C, R)
  else if u.dead.size = 0 then (0, putL C (goneC name m.num), R)
  else if (findN (B (queB u.dead)) (putL C (goneC name m.num)) R u.dead).2 ≠ 0 then ((findN (B (queB u.dead)) (putL C (goneC name m.num)) R u.dead).2, putL C (goneC name m.num), findR (putL C (goneC name m.num)) R u.dead)
  else ((sendA (putL C (goneC name m.num)) u.dead (findN (B (queB u.dead)) (putL C (goneC name m.num)) R u.dead).1 m.body 0).2.1, (sendA (putL C (goneC name m.num)) u.dead (findN (B (queB u.dead)) (putL C (goneC name m.num)) R u.dead).1 m.body 0).2.2, findR (putL C (goneC name m.num)) R u.dead)
end Go.Proofs.YtagcmjmcjpjihaaGreatDoor
namespace Go.Proofs.YtagcmjmcjpjihaaGreatDoor
open Go.RowKit
end Go.Proofs.YtagcmjmcjpjihaaGreatDoor
namespace Go.Proofs.YtagcmjmcjpjihaaGreatDoor
open Go.RowKit
end Go.Proofs.YtagcmjmcjpjihaaGreatDoor
namespace Go.Proofs.YtagcmjmcjpjihaaGreatDoor
open Go.RowKit
end Go.Proofs.YtagcmjmcjpjihaaGreatDoor
namespace Go.Proofs.YtagcmjmcjpjihaaGreatDoor
open Go.RowKit
theorem apps_memS {P : Rw → Prop} : ∀ {C : List Ch} {l : List Rw}, (∀ r ∈ l, P r) → (∀ c ∈ C, P ⟨c.key, c.val⟩) → ∀ r ∈ C.foldl appR l, P r
  | [], _, h, _ => h
  | c :: C, l, h, hC => apps_memS (C := C) (l := appR l c) (fun r hr => by
      rcases mem_appF.1 hr with ⟨h1, _⟩ | ⟨_, h1⟩
      · exact h r h1
      · rw [h1]; exact hC c (List.mem_cons_self ..)) fun d hd => hC d (List.mem_cons_of_mem _ hd)
theorem SRows.add {R : List Rw} {C : List Ch} (h : SRows R) (hC : ∀ c ∈ C, ChOk c) (hl : (C.foldl appR R).length ≤ 40) : SRows (C.foldl appR R) :=
  ⟨apps_ups h.ups, hl, apps_memS h.key fun c hc => (hC c hc).1, apps_memS h.val fun c hc => (hC c hc).2.2⟩
/-- A store that is at work on a disk. -/
structure StUp (k : Nat) (d : Dk) (h : Hd) (R0 : List Rw) (W : List (List Ch)) (u : Nat) : Prop where
  st : StB k d.now h R0 W u
  calm : Calm d
  ok : DkOk k 1000 d
  fr : FreeB d.now 50 (k - 50) h.fi u ∨ d.fuse = -1
/-- A disk, started anew behind a fall: a store of these rows. -/
def StOn (k : Nat) (d : Dk) (n : Nat) (R : List Rw) : Prop := ∃ h R0 W u, StUp k d h R0 W u ∧ rowsW R0 W = R ∧ h.ep ≤ n ∧ d.fuse = -1
theorem StUp.ck {k : Nat} {d : Dk} {h : Hd} {R0 : List Rw} {W : List (List Ch)} {u : Nat} (s : StUp k d h R0 W u) (he : h.ep + 1 ≤ 5000) :
    (∃ d', d.puts (ckW h (rowsW R0 W)) ((h.ep + 1) % 2) (headT (ckH k h (rowsW R0 W))) = (0, d') ∧ StUp k d' (ckH k h (rowsW R0 W)) (rowsW R0 W) [] 0 ∧ (d.fuse = -1 → d'.fuse = -1)) ∨
    (d.fuse ≠ -1 ∧ ∃ d', d.puts (ckW h (rowsW R0 W)) ((h.ep + 1) % 2) (headT (ckH k h (rowsW R0 W))) = (10, d') ∧ DkOk k 2000 d' ∧ ∀ K : Int, StOn k (d'.restart K) (h.ep + 1) (rowsW R0 W)) := by
  obtain ⟨c1, c2⟩ := s.st.ck he
  have hR := s.st.now
  have hl := s.st.len
  have k1 := s.st.k1
  have s1 := s.st.s1
  have hM := ckM_le hR
  rcases puts_fall (ws := ckW h (rowsW R0 W)) (n := (h.ep + 1) % 2) (s := headT (ckH k h (rowsW R0 W))) s.calm s.ok s.st.full (fun t ht => ⟨by have := ckW_mem (h := h) hR (q := t.1) (s := t.2) ht; omega, cws_size t ht⟩) (by omega) (by rw [hd_size]; omega) (by unfold ckW cws; rw [List.length_map, List.length_range]; omega) with ⟨d', e, h1, h2, h3, h4⟩ | ⟨hne, d', e, h1, h2⟩
  · exact .inl ⟨d', e, ⟨by rw [h3]; exact c1, h1, h2, .inl (by rw [h3]; exact c2)⟩, h4⟩
  · refine .inr ⟨hne, d', e, h1, fun K => ?_⟩
    obtain ⟨q1, q2, q3, q4, q5, q6⟩ := h2 K
    rcases q6 with q6 | q6
    · exact ⟨h, R0, W, u, ⟨(s.st.mixCk hR q6 q5 q4).1, q1, q2, .inr q3⟩, rfl, by omega, q3⟩
    · exact ⟨_, _, [], 0, ⟨by rw [q6]; exact c1, q1, q2, .inr q3⟩, rfl, Nat.le_refl _, q3⟩
theorem StUp.add {k : Nat} {d : Dk} {h : Hd} {R0 : List Rw} {W : List (List Ch)} {u : Nat} {C : List Ch} (s : StUp k d h R0 W u) (hC : ∀ c ∈ C, ChOk c) (hu : u + C.length + 1 ≤ k - 50) (hl : (C.foldl appR (rowsW R0 W)).length ≤ 40) :
    (∃ d', d.addD 50 (k - 50) h.fi u C = (0, d') ∧ StUp k d' h R0 (W ++ [C]) (u + C.length + 1) ∧ (d.fuse = -1 → d'.fuse = -1)) ∨
    (d.fuse ≠ -1 ∧ ∃ d', d.addD 50 (k - 50) h.fi u C = (10, d') ∧ DkOk k 2000 d' ∧ ∀ K : Int, StOn k (d'.restart K) h.ep (rowsW R0 W) ∨ StOn k (d'.restart K) h.ep (C.foldl appR (rowsW R0 W))) := by
  have hn := s.st.now.add hC hl
  have k1 := s.st.k1
  have k2 := s.st.k2
  have hlen := s.st.len
  have hA := s.st.added hC hu hn
  have hF : FreeB d.now 50 (k - 50) h.fi u → FreeB (added d.now 50 (k - 50) h.fi u C) 50 (k - 50) h.fi (u + C.length + 1) := fun hf => hf.added s.st.f1 s.st.fb hu (by omega)
  have hpA : putB d.now (lws 50 (k - 50) h.fi u C) (50 + (u + C.length)) (secB 99 (h.fi + (u + C.length)) (four C.length)) = added d.now 50 (k - 50) h.fi u C := rfl
  rw [addD_puts]
  rcases puts_fall (ws := lws 50 (k - 50) h.fi u C) (n := 50 + (u + C.length)) (s := secB 99 (h.fi + (u + C.length)) (four C.length)) s.calm s.ok s.st.full (fun t ht => ⟨by have := (lws_ok (frm := 50) (first := h.fi) hC hu t ht).1; omega, (lws_ok (frm := 50) (first := h.fi) hC hu t ht).2⟩) (by omega) (by rw [secB_size, four_size]; omega) (by have := lws_len 50 (k - 50) h.fi u C; omega) with ⟨d', e, h1, h2, h3, h4⟩ | ⟨hne, d', e, h1, h2⟩
  · rw [hpA] at h3
    exact .inl ⟨d', e, ⟨by rw [h3]; exact hA, h1, h2, s.fr.imp (fun hf => by rw [h3]; exact hF hf) h4⟩, h4⟩
  · refine .inr ⟨hne, d', e, h1, fun K => ?_⟩
    obtain ⟨q1, q2, q3, q4, q5, q6⟩ := h2 K
    rw [hpA] at q6
    rcases q6 with q6 | q6
    · exact .inl ⟨h, R0, W, u, ⟨s.st.mixAdd hC (s.fr.resolve_right hne) q6 q5 q4, q1, q2, .inr q3⟩, rfl, Nat.le_refl _, q3⟩
    · exact .inr ⟨h, R0, W ++ [C], _, ⟨by rw [q6]; exact hA, q1, q2, .inr q3⟩, rowsW_add .., Nat.le_refl _, q3⟩
/-- What a deed is told. -/
noncomputable def commitN (R : List Rw) (C : List Ch) (m : Nat) : Nat :=
  if 12 < C.length then 2 else if faultN C ≠ 0 then faultN C else if 40 < (C.foldl appR R).length then 8 else if m < C.length + 1 then 8 else 0
def usedC (u n m : Nat) : Nat := if m < u + n + 1 then n + 1 else u + n + 1
end Go.Proofs.YtagcmjmcjpjihaaGreatDoor
set_option linter.unnecessarySimpa false
namespace Go.Proofs.YtagcmjmcjpjihaaGreatDoor
open Go.RowKit Go.Lib
/-- string(c) at a piece. -/
theorem wpList_piece {P : Program} {w : World} {ops : Array Oper} {rest : List Oper} {a : Act} {Q : Exit → Act → World → Prop} {o : Oper} (hgd : o.guard = none) (x : Operand) (src dst e : TypeId) (ho : o.op = .convert src dst x)
    (hs : P.underlying src = some (.slice e)) (he : P.underlying e = some (.int .u8)) (hd : P.underlying dst = some .string) (g j cap : Nat) (t : ByteArray) (hv : ValsAt w (some ⟨g, 0, none⟩) (strCells t)) (hj : 96 * j < t.size)
    (hx : a.eval x = .slice (some ⟨g, 96 * j, none⟩) (min 96 (t.size - 96 * j)) cap) (h : wpList P ops Q rest (a.put o.dst (.string (t.extract (96 * j) (96 * j + 96)))) w) : wpList P ops Q (o :: rest) a w := by
  refine wpList_plain hgd fun K hK => ?_
  unfold Oper.wp execOp
  have hsz : t.data.toList.length = t.size := by simp
  have hll : (((t.data.toList.drop (96 * j)).take 96)).length = min 96 (t.size - 96 * j) := by rw [List.length_take, List.length_drop, hsz]
  have h1 := run_convert_bytes_back (P := P) w src dst e ⟨g, 96 * j, none⟩ cap ((t.data.toList.drop (96 * j)).take 96) hs he hd fun i hi => by
    rw [add_off]
    rw [hll] at hi
    have hg : (strCells t)[96 * j + i]? = some (.int .u8 (((t.data.toList.drop (96 * j)).take 96)[i]'(by rw [hll]; exact hi)).toNat) := by
      unfold strCells
      rw [List.getElem?_map, List.getElem?_eq_getElem (by rw [hsz]; omega)]
      simp
    have := ValsAt.get hv hg
    rwa [Nat.zero_add] at this
  rw [hll] at h1
  have h2 : (⟨((t.data.toList.drop (96 * j)).take 96).toArray⟩ : ByteArray) = t.extract (96 * j) (96 * j + 96) := ba_ext (by
    rw [ByteArray.data_extract, Array.toList_extract, List.extract_eq_take_drop, Nat.add_sub_cancel_left])
  rw [h2] at h1
  simp only [ho, Sem.run_bind, hx, h1, Result.andThen_ok, Sem.run_pure]
  exact hK _ _ h
theorem cws_split (p : Nat) (t : ByteArray) (a : Nat) : ∀ n, ∃ r, cws p t (a + n) = cws p t a ++ r
  | 0 => ⟨[], by simp⟩
  | n + 1 => by
    obtain ⟨r, hr⟩ := cws_split p t a n
    exact ⟨r ++ [_], by rw [← Nat.add_assoc, cws_succ, hr, List.append_assoc]⟩
/-- One piece more is written. -/
theorem lays_piece {d e : Dk} {p j : Nat} {t : ByteArray} (h : d.lays (cws p t j) = (0, e)) : d.lays (cws p t (j + 1)) = e.writeR ((p + j : Nat) : Int) (t.extract (96 * j) (96 * j + 96)) := by
  rw [cws_succ, lays_at h, lays_one]
theorem lays_stop {d : Dk} {p j M : Nat} {t : ByteArray} (h : (d.lays (cws p t j)).1 ≠ 0) (hj : j ≤ M) : d.lays (cws p t M) = d.lays (cws p t j) := by
  obtain ⟨r, hr⟩ := cws_split p t j (M - j)
  rw [show j + (M - j) = M from by omega] at hr
  rw [hr, lays_append, if_neg h]
/-- How far a checkpoint has come. -/
def stgP (d : Dk) (ws : List (Nat × ByteArray)) (n : Nat) (s : ByteArray) : Nat → Dk → Prop
  | 0, e => d.lays ws = (0, e)
  | 1, e => ∃ d1, d.lays ws = (0, d1) ∧ d1.flush = (0, e)
  | 2, e => ∃ d1 d2, d.lays ws = (0, d1) ∧ d1.flush = (0, d2) ∧ d2.writeR (n : Int) s = (0, e)
  | 3, e => d.puts ws n s = (0, e)
  | _, _ => False
section
variable {d d1 d2 d3 : Dk} {ws : List (Nat × ByteArray)} {n : Nat} {s : ByteArray}
theorem puts_0 (h : (d.lays ws).1 ≠ 0) : d.puts ws n s = d.lays ws := by unfold Dk.puts; rw [if_neg h]
theorem puts_1 (h : d.lays ws = (0, d1)) (h1 : d1.flush.1 ≠ 0) : d.puts ws n s = d1.flush := by
  unfold Dk.puts; rw [h]; dsimp only; rw [if_pos rfl, if_neg h1]
theorem puts_2 (h : d.lays ws = (0, d1)) (h1 : d1.flush = (0, d2)) (h2 : (d2.writeR (n : Int) s).1 ≠ 0) : d.puts ws n s = d2.writeR (n : Int) s := by
  unfold Dk.puts; rw [h]; dsimp only; rw [if_pos rfl, h1]; dsimp only; rw [if_pos rfl, if_neg h2]
theorem puts_3 (h : d.lays ws = (0, d1)) (h1 : d1.flush = (0, d2)) (h2 : d2.writeR (n : Int) s = (0, d3)) : d.puts ws n s = d3.flush := by
  unfold Dk.puts; rw [h]; dsimp only; rw [if_pos rfl, h1]; dsimp only; rw [if_pos rfl, h2]; dsimp only; rw [if_pos rfl]
end
set_option maxHeartbeats 4000000 in
set_option maxRecDepth 100000 in
theorem ck1_does (bs bh s p : Nat) (d : Dk) (k j : Nat) (H : Hd) (hD : DkOk k j d) (hj : j ≤ 900000) (g0 : H.ep ≤ 2000000000) (g1 : H.si ≤ 2000000000) (g2 : H.sz ≤ 2000000000) (g3 : H.fi ≤ 2000000000) (h0 h1 h2 h3 lg mp : Value) :
    Does Tryz.prog 158 #[.pointer (some ⟨bs, 0, none⟩), .pointer (some ⟨bh, 0, none⟩)] [Var bs [.pointer (some ⟨s, 0, none⟩)] 126, Var bh [.int .i64 (H.ep : Int), .int .i64 (H.si : Int), .int .i64 (H.sz : Int), .int .i64 (H.fi : Int)] 223, Var s [.pointer (some ⟨p, 0, none⟩), h0, h1, h2, h3, lg, mp] 233, DiskR p d]
      (fun _ : Unit => (errV (d.writeR ((H.ep % 2 : Nat) : Int) (headT H)).1, [Var bs [.pointer (some ⟨s, 0, none⟩)] 126, Var bh [.int .i64 (H.ep : Int), .int .i64 (H.si : Int), .int .i64 (H.sz : Int), .int .i64 (H.fi : Int)] 223, Var s [.pointer (some ⟨p, 0, none⟩), h0, h1, h2, h3, lg, mp] 233, DiskR p (d.writeR ((H.ep % 2 : Nat) : Int) (headT H)).2])) := by
  have HT := fun w => headText_any H w g0 g1 g2 g3
  unfold Hd.cells at HT
  have HW := write_does p d ((H.ep % 2 : Nat) : Int) (headT H) hD.f1 hD.f2 (by have := hD.wait; omega)
  generalize headT H = z at *
  obtain ⟨ep, si, sz, fi⟩ := H
  dsimp only at *
  rw [show ((ep % 2 : Nat) : Int) = (ep : Int) % 2 from by omega] at HW ⊢
  generalize d.writeR ((ep : Int) % 2) z = r at *
  obtain ⟨rc, e⟩ := r
  dsimp only at HW ⊢
  intro S W w L0 hO; simp only [CA] at hO
  (replace hf := fa_ hO)
  go_enter Tryz.func158, Tryz.ntmps158
  go_wp2_with (first | (refine sq_ ?_; clear hO; (try clear hf); intro w9 hO hf))
  (refine rg_ hO ((1, 0) :: (0, 1) :: (0, 2) :: (1, 3) :: (0, 4) :: (1, 5) :: (0, 6) :: (1, 7) :: (3, 8) :: (5, 9) :: (0, 10) :: []) ?_; clear hO; intro w9 hO; replace hf := fa_ hO; (repeat (first | (apply inRun_p _ rfl rfl rfl; focus (intro w8 K8 hK8; (repeat (first | go_skip | go_guarded | go_step)); exact hK8)) | (apply inRun_l _ rfl rfl rfl; focus (intro w8 hx8 K8 hK8; have hO := hO.ext hx8; (replace hf := fa_ hO); skip; (repeat (first | go_skip | go_guarded | go_step)); exact hK8)) | (apply inRun_q _ rfl; (focus (intro w8 hx8 K8 hK8; have hO := hO.ext hx8; (replace hf := fa_ hO); (repeat (first | go_skip | go_guarded | go_step | (first | (go_at_call 146; (with_reducible refine Calls.mono (HT _) ?_; rintro e7 w7 ⟨rfl, hx7⟩; dsimp only))))); (first | exact xt_ | exact hK8 _ xt_))); (focus (exact rfl)); intro w8 hx8; replace hO := hO.ext hx8; clear hx8; (replace hf := fa_ hO)))))
  (refine inRun_d rfl ?_; intro K8 hK8; (repeat (first | go_skip | go_guarded | go_step)); (go_at_call 144; (with_reducible refine Does.use hO (HW) tk_ (du_ ?_); clear hO; (try clear hf); intro x9 w9 hO hf)); (repeat go_step); refine hK8 _ _ trivial ?_; clear hK8 K8)
  (refine ss_ hO ?_; clear hO; (try clear hf); intro w9 hO hf)
  refine inRun_nil ?_
  go_wp2_with (first | (refine sq_ ?_; clear hO; (try clear hf); intro w9 hO hf))
  go_ret
  refine ⟨(), rfl, ?_⟩
  dsimp only
  (try simp only [CA])
  exact hO.cut sb_
end Go.Proofs.YtagcmjmcjpjihaaGreatDoor
namespace Go.Proofs.YtagcmjmcjpjihaaGreatDoor
open Go.RowKit Go.Lib
attribute [local go_sem] Oper.semAt_some
theorem k_set_ownS {S : Nat → Prop} {W w : World} {L : List Rs} {G : World → Prop} {p : Addr} {v : Value} (hO : Own S W (w.setCell p v) L) (k : ∀ w', Own S W w' L → G w') : G (w.setCell p v) := k _ hO
theorem inPlan_named {P : Program} {ops : Array Oper} {I : World → Prop} {Q : Exit → Act → World → Prop} {t : Plan} {a : Act} {w : World} (h : ∀ a' Q', a' = a → Q' = Q → inPlan P ops I Q' t a' w) : inPlan P ops I Q t a w := h _ _ rfl rfl
theorem rdPost_set_own {S : Nat → Prop} {W w : World} {L : List Rs} {l : Nat} {rec : LoopState → Option Code → Obj} {R : Ending → World → Prop} {x : Exit} {a : Act} {p : Addr} {v : Value} (hO : Own S W (w.setCell p v) L) (k : ∀ w', Own S W w' L → rdPost S W l rec R x a w') : rdPost S W l rec R x a (w.setCell p v) := k _ hO
/-- What a checkpoint leaves. -/
def ckT (s p m b : Nat) (H : Hd) (R : List Rw) (c : Nat) (e : Dk) (q' : Nat) : List Rs :=
  if c = 0 then [Var s (stC p H.ep H.si H.sz H.fi q' b) 233, Var q' [.pointer (some ⟨p, 0, none⟩), .int .i64 ((50 : Nat) : Int), .int .i64 (m : Int), .int .i64 (H.fi : Int), .int .i64 ((0 : Nat) : Int)] 295, StM b R, DiskR p e, .imm LibOk]
  else [DiskR p e, .imm LibOk]
set_option maxHeartbeats 8000000 in
set_option maxRecDepth 100000 in
theorem ckpt_does (s b p q m u : Nat) (d : Dk) (h : Hd) (R : List Rw) (hR : SRows R) (hD : DkOk (m + 50) 1000 d) (hm : 4 ≤ m) (hm2 : m ≤ 150) (hu : u ≤ m) (he : h.ep + 1 ≤ 5000) (hs : h.si ≤ 1) (hz : h.sz ≤ 2304) (hfi : h.fi ≤ 1000000) (hfm : h.fi + m ≤ 1000000)
    (HP : ∀ e, d.puts (ckW h R) ((h.ep + 1) % 2) (headT (ckH (m + 50) h R)) = (0, e) → e.down = false ∧ StB (m + 50) e.now (ckH (m + 50) h R) R [] 0) :
    Does Tryz.prog 80 #[.pointer (some ⟨s, 0, none⟩)] [Var s (stC p h.ep h.si h.sz h.fi q b) 233, Var q [.pointer (some ⟨p, 0, none⟩), .int .i64 ((50 : Nat) : Int), .int .i64 (m : Int), .int .i64 (h.fi : Int), .int .i64 (u : Int)] 295, StM b R, DiskR p d, .imm LibOk]
      (fun q' : Nat => (errV (d.puts (ckW h R) ((h.ep + 1) % 2) (headT (ckH (m + 50) h R))).1, ckT s p m b (ckH (m + 50) h R) R (d.puts (ckW h R) ((h.ep + 1) % 2) (headT (ckH (m + 50) h R))).1 (d.puts (ckW h R) ((h.ep + 1) % 2) (headT (ckH (m + 50) h R))).2 q')) := by
  have hM := ckM_le hR
  have HMM := Lib.hid (show ckM R = ((allT R).size + 95) / 96 from rfl)
  have hTs := hR.size
  have HW : ckW h R = cws (2 + 24 * (1 - h.si)) (allT R) (ckM R) := rfl
  have HHD : ckH (m + 50) h R = ⟨h.ep + 1, 1 - h.si, (allT R).size, h.fi + m⟩ := by unfold ckH; rw [Nat.add_sub_cancel]
  rw [HW, HHD] at HP ⊢
  clear HW HHD
  obtain ⟨ep, si, sz, fi⟩ := h
  dsimp only [stC] at *
  obtain ⟨e2, he2, ge2⟩ : ∃ e2, ep + 1 = e2 ∧ e2 ≤ 5000 := ⟨_, rfl, he⟩
  obtain ⟨s2, hs2, gs2⟩ : ∃ s2, 1 - si = s2 ∧ s2 ≤ 1 := ⟨_, rfl, by omega⟩
  obtain ⟨f2, hf2, gf2⟩ : ∃ f2, fi + m = f2 ∧ f2 ≤ 1000000 := ⟨_, rfl, hfm⟩
  rw [he2, hs2, hf2] at HP ⊢
  have HE2 := Lib.hid he2
  have HS2 := Lib.hid hs2
  have HF2 := Lib.hid hf2
  clear he2 hs2 hf2
  have HALL := sall_does s b R hR (.pointer (some ⟨p, 0, none⟩)) (.int .i64 ep) (.int .i64 si) (.int .i64 sz) (.int .i64 fi) (.pointer (some ⟨q, 0, none⟩))
  have HNX := next_reads p q 50 m fi u (by omega) (by omega)
  have HCH := fun g n cap => chunk_does g n cap
  have hP := Lib.hid HP
  have HR := Lib.hid hR
  clear HP hR
  intro S W w L0 hO; simp only [CA] at hO
  (replace hf := fa_ hO)
  (refine calls_of_marks Tryz.func80 rfl ?_; simp only [Tryz.ntmps80, List.size_toArray, List.length_cons, List.length_nil, Nat.reduceAdd, Nat.reduceSub, Array.replicate_succ, Array.replicate_zero, List.push_toArray, List.append_toArray, List.nil_append, List.cons_append])
  go_wp2_with (first | (go_at_call 155; (with_reducible refine Does.use hO (HALL) tk_ (du_ ?_); clear hO; (try clear hf); intro x9 w9 hO hf)) | (refine sq_ ?_; clear hO; (try clear hf); intro w9 hO hf))
  (obtain ⟨bs, hg9⟩ := (hO.pick (r := Var _ [.pointer (some ⟨s, 0, none⟩)] 126) pk_).named; rw [← hg9]; rw [← hg9] at hO; clear hg9)
  (obtain ⟨br, hg9⟩ := (hO.pick (r := Var _ [.nilIface] 42) pk_).named; rw [← hg9]; rw [← hg9] at hO; clear hg9)
  refine wp_region_planI (fun w8 => Own S W w8 (Var bs [.pointer (some ⟨s, 0, none⟩)] 126 :: Var s [.pointer (some ⟨p, 0, none⟩), .int .i64 (ep : Int), .int .i64 (si : Int), .int .i64 (sz : Int), .int .i64 (fi : Int), .pointer (some ⟨q, 0, none⟩), .map (some b)] 233 :: Var q [.pointer (some ⟨p, 0, none⟩), .int .i64 ((50 : Nat) : Int), .int .i64 (m : Int), .int .i64 (fi : Int), .int .i64 (u : Int)] 295 :: L0)) (fun _ _ h hx => h.ext hx) (hO.cut sb_) [1, 2, 3, 5, 7, 8, 9, 11, 12, 15, 16, 19, 1000, 1004, 1006, 1010, 1013, 1014, 1017]
    (.see 0 <| .pure 1 <| .pure 2 <| .pure 3 <| .see 4 <| .pure 5 <| .see 6 <| .pure 7 <| .pure 8 <| .pure 9 <| .see 10 <| .pure 11 <| .pure 12 <| .see 13 <| .see 14 <| .pure 15 <| .pure 16 <| .see 17 <| .fork 18 (.pure 19 <| .one 20 <| .one 21 .done) 20 (.one 18 <| .pure 19 <| .one 21 .done)) (by kernel_rfl) (by kernel_rfl) (fun _ _ d _ _ h => by cases d <;> exact h) ?_
  intro w9 hx9
  replace hO := hO.ext hx9
  clear hx9
  (replace hf := fa_ hO)
  (repeat (first | (apply inPlan_p _ rfl rfl rfl; focus (intro w8 K8 hK8; (repeat (first | go_skip | go_guarded | go_step)); exact hK8)) | (apply inPlan_s _ rfl rfl rfl; focus (intro w8 hI8 K8 hK8; (try clear hf); have hf := fa_ hI8; (repeat (first | go_skip | go_guarded | go_step)); exact hK8))))
  refine inPlan_named fun a0 Q0 ha0 hQ0 => ?_
  have key : ∀ (bh : Nat) (v34 v35 : Value) (w' : World), Own S W w' (Var bh [.int .i64 ((ep : Int) + 1), .int .i64 (1 - (si : Int)), .int .i64 ((allT R).size : Int), .int .i64 ((fi : Int) + m)] 223 :: Var bs [.pointer (some ⟨s, 0, none⟩)] 126 :: Var br [.nilIface] 42 :: Var s [.pointer (some ⟨p, 0, none⟩), .int .i64 (ep : Int), .int .i64 (si : Int), .int .i64 (sz : Int), .int .i64 (fi : Int), .pointer (some ⟨q, 0, none⟩), .map (some b)] 233 :: Var q [.pointer (some ⟨p, 0, none⟩), .int .i64 ((50 : Nat) : Int), .int .i64 (m : Int), .int .i64 (fi : Int), .int .i64 (u : Int)] 295 :: StM b R :: DiskR p d :: .imm LibOk :: L0) → Q0 .normal (((a0.put (some 34) v34).put (some 35) v35).put (some 4) (.pointer (some ⟨bh, 0, none⟩))) w' := by
    clear hO hf
    intro bh v34 v35 w' hO
    rw [show ((ep : Int) + 1) = (e2 : Int) from by have := HE2.out; omega, show 1 - (si : Int) = (s2 : Int) from by have := HS2.out; omega, show (fi : Int) + m = (f2 : Int) from by have := HF2.out; omega] at hO
    rw [ha0, hQ0]
    simp only [Act.put, List.setIfInBounds_toArray, List.set_cons_succ, List.set_cons_zero]
    (replace hf := fa_ hO)
    go_wp2_with (first | ((with_reducible show wpList _ _ _ (Oper.mk _ (.convert 9 244 _) _ _ _ _ :: _) _ _); (refine wpList_text_bytes hO rfl _ _ _ _ rfl Tryz.underlying9 Tryz.underlying244 Tryz.underlying5 (allT R) rfl (by unfold maxLen; omega) ?_; clear hO; intro g9 cap9 w9 hO hc1 hc2; (replace hf := fa_ hO))) | (go_at_call 157; (with_reducible refine Does.use hO ((HCH _ _ _)) tk_ (du_ ?_); clear hO; (try clear hf); intro x9 w9 hO hf; (obtain ⟨c1, c2⟩ := x9; dsimp only at hO ⊢; (replace hf := fa_ hO)))) | (refine sq_ ?_; clear hO; (try clear hf); intro w9 hO hf))
    (obtain ⟨bi, hg9⟩ := (hO.pick (r := Var _ [.int .i64 0] 3) pk_).named; rw [← hg9]; rw [← hg9] at hO; clear hg9)
    refine wp_rangeFunc_own hO rfl (enters_of Tryz.func221 (by kernel_rfl) rfl) ?_
    intro fn l D w2 rec hrec hO2
    obtain ⟨X, hX⟩ : ∃ X : Nat → List Rs, X = fun j => .pure ((d.lays (cws (2 + 24 * s2) (allT R) j)).1 = 0 ∧ DkOk (m + 50) (1000 + j) (d.lays (cws (2 + 24 * s2) (allT R) j)).2) :: Blk l (rec .ready none) :: Blk D (.deferred (some [])) :: Var bh [.int .i64 (e2 : Int), .int .i64 (s2 : Int), .int .i64 ((allT R).size : Int), .int .i64 (f2 : Int)] 223 :: Var bs [.pointer (some ⟨s, 0, none⟩)] 126 :: Var br [.nilIface] 42 :: Var bi [.int .i64 ((j : Nat) : Int)] 3 :: Var s [.pointer (some ⟨p, 0, none⟩), .int .i64 (ep : Int), .int .i64 (si : Int), .int .i64 (sz : Int), .int .i64 (fi : Int), .pointer (some ⟨q, 0, none⟩), .map (some b)] 233 :: Var q [.pointer (some ⟨p, 0, none⟩), .int .i64 ((50 : Nat) : Int), .int .i64 (m : Int), .int .i64 (fi : Int), .int .i64 (u : Int)] 295 :: StM b R :: DiskR p (d.lays (cws (2 + 24 * s2) (allT R) j)).2 :: .imm (fun w => ValsAt w (some ⟨g9, 0, none⟩) (strCells (allT R))) :: .imm LibOk :: L0 := ⟨_, rfl⟩
    obtain ⟨Rx, hRx⟩ : ∃ Rx : World → Prop, Rx = fun w' => ∃ e', d.lays (cws (2 + 24 * s2) (allT R) (ckM R)) = (10, e') ∧ Own S W w' (Blk l (rec .done (some .ret)) :: Blk D (.deferred (some [])) :: Var bh [.int .i64 (e2 : Int), .int .i64 (s2 : Int), .int .i64 ((allT R).size : Int), .int .i64 (f2 : Int)] 223 :: Var bs [.pointer (some ⟨s, 0, none⟩)] 126 :: Var br [errV 10] 42 :: DiskR p e' :: .imm LibOk :: L0) := ⟨_, rfl⟩
    have HC := chunk1_any l c1 c2 g9 (allT R).size cap9 hc1 (by omega) hc2 (S := S) (W := W) X Rx ?hY w2 ?h0
    case h0 =>
      rw [hX]
      dsimp only
      have h7 := hO2.toPure (p := (d.lays (cws (2 + 24 * s2) (allT R) 0)).1 = 0 ∧ DkOk (m + 50) (1000 + 0) (d.lays (cws (2 + 24 * s2) (allT R) 0)).2) ⟨rfl, hD⟩
      rw [show (d.lays (cws (2 + 24 * s2) (allT R) 0)).2 = d from rfl] at h7 ⊢
      rw [show ((0 : Nat) : Int) = 0 from rfl]
      exact h7.cut sb_
    case hY =>
      intro j w3 hj hO
      clear hO2 ha0 hQ0
      rw [hX] at hO
      have HX := Lib.hid hX
      have HRX := Lib.hid hRx
      have HREC := Lib.hid hrec
      clear hX hRx hrec
      dsimp only at hO
      obtain ⟨h0, hDk⟩ := Own.pureOf (p := (d.lays (cws (2 + 24 * s2) (allT R) j)).1 = 0 ∧ DkOk (m + 50) (1000 + j) (d.lays (cws (2 + 24 * s2) (allT R) j)).2) hO pk_
      obtain ⟨e, hE⟩ : ∃ e, d.lays (cws (2 + 24 * s2) (allT R) j) = (0, e) := ⟨_, Prod.ext h0 rfl⟩
      rw [hE] at hO hDk
      dsimp only at hO hDk
      have hE1 := lays_piece hE
      have hST := fun h => lays_stop (d := d) (p := 2 + 24 * s2) (t := allT R) (j := j + 1) (M := ckM R) h (by have := HMM.out; omega)
      have hsz : ((allT R).extract (96 * j) (96 * j + 96)).size ≤ 96 := by rw [ByteArray.size_extract]; omega
      have hcd := write_code2 (d := e) (n := 2 + 24 * s2 + j) (s := (allT R).extract (96 * j) (96 * j + 96)) (by rw [hDk.now]; omega) hsz
      have hD2 := hDk.write ((2 + 24 * s2 + j : Nat) : Int) ((allT R).extract (96 * j) (96 * j + 96))
      have HWR := write_does p e ((2 + 24 * s2 + j : Nat) : Int) ((allT R).extract (96 * j) (96 * j + 96)) hDk.f1 hDk.f2 (by have := hDk.wait; omega)
      rw [show ((2 + 24 * s2 + j : Nat) : Int) = 2 + (s2 : Int) * 24 + j from by omega] at HWR hcd hD2 hE1
      replace hO := hO.cut (l' := Blk l (rec .ready none) :: Var c1 [.slice (some ⟨g9, 0, none⟩) (allT R).size cap9] 244 :: Var c2 [.int .i64 96] 3 :: Blk D (.deferred (some [])) :: Var bh [.int .i64 (e2 : Int), .int .i64 (s2 : Int), .int .i64 ((allT R).size : Int), .int .i64 (f2 : Int)] 223 :: Var bs [.pointer (some ⟨s, 0, none⟩)] 126 :: Var br [.nilIface] 42 :: Var bi [.int .i64 ((j : Nat) : Int)] 3 :: Var s [.pointer (some ⟨p, 0, none⟩), .int .i64 (ep : Int), .int .i64 (si : Int), .int .i64 (sz : Int), .int .i64 (fi : Int), .pointer (some ⟨q, 0, none⟩), .map (some b)] 233 :: Var q [.pointer (some ⟨p, 0, none⟩), .int .i64 ((50 : Nat) : Int), .int .i64 (m : Int), .int .i64 (fi : Int), .int .i64 (u : Int)] 295 :: StM b R :: DiskR p e :: .imm (fun w => ValsAt w (some ⟨g9, 0, none⟩) (strCells (allT R))) :: .imm LibOk :: L0) sb_
      unfold pieceV
      generalize e.writeR (2 + (s2 : Int) * 24 + j) ((allT R).extract (96 * j) (96 * j + 96)) = rr at *
      obtain ⟨rc, e'⟩ := rr
      dsimp only at hcd hD2 HWR
      apply yield_own HREC.out hO rfl
      · intro K hK
        gi_wp2
        exact hK
      · intro w4 hO
        gi_step
        gi_step
        gi_step
        (replace hf := fa_ hO)
        (refine wpIn_draw_round (fun _ _ h => h) (by kernel_rfl) (fun _ => True) (fun _ _ _ _ => trivial) trivial ((1, 0) :: (0, 1) :: (0, 2) :: (1, 3) :: (0, 4) :: (1, 5) :: (0, 6) :: (0, 7) :: (1, 8) :: (0, 9) :: (0, 10) :: (1, 11) :: (5, 12) :: (0, 13) :: []) (by kernel_rfl) (by kernel_rfl) rfl (fun _ _ _ _ _ h => h) ?_; intro w9 hx9; replace hO := hO.ext hx9; clear hx9; (replace hf := fa_ hO))
        (repeat (first | (apply inRun_p _ rfl rfl rfl; focus (intro w8 K8 hK8; (repeat (first | go_skip | go_guarded | go_step)); exact hK8)) | (apply inRun_l _ rfl rfl rfl; focus (intro w8 hx8 K8 hK8; have hO := hO.ext hx8; (replace hf := fa_ hO); (try (refine wpList_piece (w := w8) rfl _ _ _ _ rfl Tryz.underlying244 Tryz.underlying5 Tryz.underlying9 g9 j _ (allT R) (hO.factOf (r := .imm (fun w => ValsAt w (some ⟨g9, 0, none⟩) (strCells (allT R)))) pk_) hj rfl ?_)); (repeat (first | go_skip | go_guarded | go_step)); exact hK8)) | (apply inRun_q _ rfl; (focus (intro w8 hx8 K8 hK8; have hO := hO.ext hx8; (replace hf := fa_ hO); (repeat (first | go_skip | go_guarded | go_step | fail)); (first | exact xt_ | exact hK8 _ xt_))); (focus (exact rfl)); intro w8 hx8; replace hO := hO.ext hx8; clear hx8; (replace hf := fa_ hO))))
        rcases hcd with rfl | rfl
        · rw [show errV 0 = .nilIface from rfl] at HWR
          (refine inRun_d rfl ?_; intro K8 hK8; (repeat (first | go_skip | go_guarded | go_step)); (go_at_call 144; (with_reducible refine Does.use hO (HWR) tk_ (du_ ?_); clear hO; (try clear hf); intro x9 w9 hO hf)); (repeat go_step); refine hK8 _ _ trivial ?_; clear hK8 K8)
          (refine ss_ hO ?_; clear hO; (try clear hf); intro w9 hO hf)
          refine inRun_nil ?_
          replace hO := hO.pick (r := Blk l (rec .busy none)) pk_
          (replace hf := fa_ hO)
          gi_wp2
          apply rdPost_set_own
          focus exact st_ hO
          clear hO
          intro w5 hO
          dsimp only [List.set] at hO
          refine ⟨_, hO, fun w5 hO => .inl ⟨rfl, ?_⟩⟩
          have h7 := hO.toPure (p := (d.lays (cws (2 + 24 * s2) (allT R) (j + 1))).1 = 0 ∧ DkOk (m + 50) (1000 + (j + 1)) (d.lays (cws (2 + 24 * s2) (allT R) (j + 1))).2) (by rw [hE1]; exact ⟨rfl, hD2⟩)
          rw [HX.out]
          dsimp only
          rw [hE1] at h7 ⊢
          rw [show ((j + 1 : Nat) : Int) = (j : Int) + 1 from by omega]
          exact h7.cut sb_
        · rw [show errV 10 = .iface 124 (.int .i64 10) from rfl] at HWR
          (refine inRun_d rfl ?_; intro K8 hK8; (repeat (first | go_skip | go_guarded | go_step)); (go_at_call 144; (with_reducible refine Does.use hO (HWR) tk_ (du_ ?_); clear hO; (try clear hf); intro x9 w9 hO hf)); (repeat go_step); refine hK8 _ _ trivial ?_; clear hK8 K8)
          (refine ss_ hO ?_; clear hO; (try clear hf); intro w9 hO hf)
          refine inRun_nil ?_
          replace hO := hO.pick (r := Blk l (rec .busy none)) pk_
          (replace hf := fa_ hO)
          gi_wp2
          apply rdPost_set_own
          focus exact st_ hO
          clear hO
          intro w5 hO
          dsimp only [List.set] at hO
          refine ⟨_, hO, fun w5 hO => .inr ⟨rfl, ?_⟩⟩
          rw [HRX.out]
          refine ⟨e', (hST (by rw [hE1]; simp)).trans hE1, ?_⟩
          rw [show errV 10 = .iface 124 (.int .i64 10) from rfl]
          exact hO.cut sb_
    · refine Calls.mono (show Calls Tryz.prog 221 _ _ _ from HC) ?_
      rintro e w3 ⟨⟨v, rfl⟩, hOK | hNO⟩
      · rw [hX] at hOK
        dsimp only at hOK
        obtain ⟨h0, hDk⟩ := Own.pureOf (p := (d.lays (cws (2 + 24 * s2) (allT R) (((allT R).size + 95) / 96))).1 = 0 ∧ DkOk (m + 50) (1000 + ((allT R).size + 95) / 96) (d.lays (cws (2 + 24 * s2) (allT R) (((allT R).size + 95) / 96))).2) hOK pk_
        rw [← HMM.out] at h0 hDk hOK
        obtain ⟨e, hE⟩ : ∃ e, d.lays (cws (2 + 24 * s2) (allT R) (ckM R)) = (0, e) := ⟨_, Prod.ext h0 rfl⟩
        rw [hE] at hOK hDk
        dsimp only at hOK hDk
        have hO := hOK.cut (l' := Blk l (rec .ready none) :: Blk D (.deferred (some [])) :: Var bh [.int .i64 (e2 : Int), .int .i64 (s2 : Int), .int .i64 ((allT R).size : Int), .int .i64 (f2 : Int)] 223 :: Var bs [.pointer (some ⟨s, 0, none⟩)] 126 :: Var br [.nilIface] 42 :: Var s [.pointer (some ⟨p, 0, none⟩), .int .i64 (ep : Int), .int .i64 (si : Int), .int .i64 (sz : Int), .int .i64 (fi : Int), .pointer (some ⟨q, 0, none⟩), .map (some b)] 233 :: Var q [.pointer (some ⟨p, 0, none⟩), .int .i64 ((50 : Nat) : Int), .int .i64 (m : Int), .int .i64 (fi : Int), .int .i64 (u : Int)] 295 :: StM b R :: DiskR p e :: .imm LibOk :: L0) sb_
        clear hOK h0 hX hRx HC hO2
        refine ⟨v, rfl, .ready, none, _, by simp, hO, fun w4 hO => ?_⟩
        dsimp only [behind]
        (replace hf := fa_ hO)
        go_wp2_with (first | (refine sq_ ?_; clear hO; (try clear hf); intro w9 hO hf))
        have hmf : ∀ (fn : Fn) (first cap : Array Value) (w : World), (Instr.makeFunc fn first cap).run Tryz.prog w = .ok (.func fn first cap) w := fun _ _ _ _ => rfl
        (refine rg_ hO ((1, 0) :: (0, 1) :: (0, 2) :: (1, 3) :: (0, 4) :: (0, 5) :: (1, 6) :: (0, 7) :: (0, 8) :: (1, 9) :: (0, 10) :: (0, 13) :: (4, 11) :: (1, 12) :: []) ?_; clear hO; intro w9 hO; replace hf := fa_ hO; (refine ss_ hO ?_; clear hO; (try clear hf); intro w9 hO hf))
        (refine inRun_x rfl ?_; intro K8 hK8; (repeat (first | go_skip | go_guarded | go_step)); refine hK8 _ _ xt_ ?_; clear hK8 K8; with_reducible refine inRun_alloc_own hO ?_; clear hO; intro w9 hO; (replace hf := fa_ hO))
        (refine ss_ hO ?_; clear hO; (try clear hf); intro w9 hO hf)
        refine inRun_nil ?_
        go_wp2_with (first | (refine sq_ ?_; clear hO; (try clear hf); intro w9 hO hf))
        (obtain ⟨bf, hg9⟩ := (hO.pick (r := Var _ _ 56) pk_).named; rw [← hg9]; rw [← hg9] at hO; clear hg9)
        have HS0 := Lib.hid (show stgP d (cws (2 + 24 * s2) (allT R) (ckM R)) ((e2) % 2) (headT ⟨e2, s2, (allT R).size, f2⟩) 0 e from hE)
        clear hE ha0 hQ0
        have hO9 := hO
        clear hO hf
        go_loopw [71] (fun v wr => ∃ (i : Nat) (e : Dk), v = .int .i64 i ∧ Hid (stgP d (cws (2 + 24 * s2) (allT R) (ckM R)) ((e2) % 2) (headT ⟨e2, s2, (allT R).size, f2⟩) i e) ∧ DkOk (m + 50) (1100 + 20 * i) e ∧ Own S W wr ([Blk D (.deferred (some [])), Var bh [.int .i64 (e2 : Int), .int .i64 (s2 : Int), .int .i64 ((allT R).size : Int), .int .i64 (f2 : Int)] 223, Var bs [.pointer (some ⟨s, 0, none⟩)] 126, Var br [.nilIface] 42, Var bf [.func (.func 145) #[.pointer (some ⟨p, 0, none⟩)] #[], .func (.func 158) #[] #[.pointer (some ⟨bs, 0, none⟩), .pointer (some ⟨bh, 0, none⟩)], .func (.func 145) #[.pointer (some ⟨p, 0, none⟩)] #[]] 56, Var s [.pointer (some ⟨p, 0, none⟩), .int .i64 (ep : Int), .int .i64 (si : Int), .int .i64 (sz : Int), .int .i64 (fi : Int), .pointer (some ⟨q, 0, none⟩), .map (some b)] 233, Var q [.pointer (some ⟨p, 0, none⟩), .int .i64 ((50 : Nat) : Int), .int .i64 (m : Int), .int .i64 (fi : Int), .int .i64 (u : Int)] 295, StM b R, DiskR p e, .imm LibOk] ++ L0)) (fun v _ => 4 - (intOf v).toNat)
        case atStart => exact ⟨0, e, rfl, HS0, hDk.mono (by omega), by (try simp only [CA]); exact hO9.cut sb_⟩
        case round =>
          clear hO9 HS0 hDk
          obtain ⟨i, e, rfl, HS, hDe, hO⟩ := hrel
          rename World => w1
          simp only [List.cons_append, List.nil_append] at hO
          (replace hf := fa_ hO)
          match i, HS with
          | 0, HS =>
            have hS : d.lays (cws (2 + 24 * s2) (allT R) (ckM R)) = (0, e) := HS.out
            clear HS
            have H1 := flush_does p e hDe.f1 hDe.f2 (by rw [hDe.now]; omega) (by rw [hDe.now, hDe.kept])
            have hcd := flush_code2 e
            have hD2 := hDe.flush
            have hA0 := fun h => puts_1 (d := d) (ws := (cws (2 + 24 * s2) (allT R) (ckM R))) (n := ((e2) % 2)) (s := (headT ⟨e2, s2, (allT R).size, f2⟩)) hS (d1 := e) h
            have hst := fun (h : e.flush.1 = 0) => show stgP d (cws (2 + 24 * s2) (allT R) (ckM R)) ((e2) % 2) (headT ⟨e2, s2, (allT R).size, f2⟩) 1 e.flush.2 from ⟨e, hS, Prod.ext h rfl⟩
            clear hS
            generalize e.flush = r at *
            obtain ⟨rc, e'⟩ := r
            dsimp only at H1 hcd hD2 hA0 hst
            rcases hcd with rfl | rfl
            · rw [show errV 0 = .nilIface from rfl] at H1
              have HST := Lib.hid (hst rfl)
              clear hA0 hst
              have hD3 : DkOk (m + 50) (1100 + 20 * (0 + 1)) e' := ⟨hD2.now, hD2.kept, hD2.f1, hD2.f2, by have := hD2.wait; omega, hD2.ats⟩
              clear hD2
              go_wp2_with (first | (go_at_call 145; (with_reducible refine Does.use hO (H1) tk_ (du_ ?_); clear hO; (try clear hf); intro x9 w9 hO hf)) | (refine sq_ ?_; clear hO; (try clear hf); intro w9 hO hf))
              refine ⟨⟨1, e', by go_num, HST, hD3, ?_⟩, by simp [intOf]⟩
              (try simp only [CA])
              exact hO.cut sb_
            · have HE := Lib.hid (hA0 (by omega))
              clear hA0 hst hD2
              rw [show errV 10 = .iface 124 (.int .i64 10) from rfl] at H1
              go_wp2_with (first | (go_at_call 145; (with_reducible refine Does.use hO (H1) tk_ (du_ ?_); clear hO; (try clear hf); intro x9 w9 hO hf)) | (with_reducible apply mk_set_own; (focus (exact st_ hO)); clear hO; intro w9 hO; (try dsimp only [List.set] at hO); (replace hf := fa_ hO)) | (refine sq_ ?_; clear hO; (try clear hf); intro w9 hO hf))
              (refine mk_end rfl (hO.pick (r := Blk D (.deferred (some []))) pk_) (fun w5 hO => ?_); (replace hf := fa_ hO); refine ⟨(.iface 124 (.int .i64 10)), by simp [results, Tryz.results80, go_sem, hf], 0, ?_, ?_⟩; (focus (rw [HE.out]; rfl)); rw [HE.out]; dsimp only; rw [show ckT _ _ _ _ _ _ 10 _ _ = [DiskR p _, .imm LibOk] from rfl]; (try simp only [CA]); exact hO.cut sb_)
          | 1, HS =>
            obtain ⟨d1, hS, hS1⟩ : ∃ d1, d.lays (cws (2 + 24 * s2) (allT R) (ckM R)) = (0, d1) ∧ d1.flush = (0, e) := HS.out
            clear HS
            have H1 := ck1_does bs bh s p e (m + 50) (1100 + 20 * 1) ⟨e2, s2, (allT R).size, f2⟩ hDe (by omega) (by dsimp only; omega) (by dsimp only; omega) (by dsimp only; omega) (by dsimp only; omega) (.int .i64 (ep : Int)) (.int .i64 (si : Int)) (.int .i64 (sz : Int)) (.int .i64 (fi : Int)) (.pointer (some ⟨q, 0, none⟩)) (.map (some b))
            have hcd := write_code2 (d := e) (n := ((e2) % 2)) (s := (headT ⟨e2, s2, (allT R).size, f2⟩)) (by rw [hDe.now]; omega) (by rw [hd_size]; omega)
            have hD2 := hDe.write (((((e2) % 2) : Nat)) : Int) (headT ⟨e2, s2, (allT R).size, f2⟩)
            have hA0 := fun h => puts_2 (d := d) (ws := (cws (2 + 24 * s2) (allT R) (ckM R))) (n := ((e2) % 2)) (s := (headT ⟨e2, s2, (allT R).size, f2⟩)) hS hS1 h
            have hst := fun (h : (e.writeR (((((e2) % 2) : Nat)) : Int) (headT ⟨e2, s2, (allT R).size, f2⟩)).1 = 0) => show stgP d (cws (2 + 24 * s2) (allT R) (ckM R)) ((e2) % 2) (headT ⟨e2, s2, (allT R).size, f2⟩) 2 (e.writeR (((((e2) % 2) : Nat)) : Int) (headT ⟨e2, s2, (allT R).size, f2⟩)).2 from ⟨d1, e, hS, hS1, Prod.ext h rfl⟩
            clear hS hS1
            generalize e.writeR (((((e2) % 2) : Nat)) : Int) (headT ⟨e2, s2, (allT R).size, f2⟩) = r at *
            obtain ⟨rc, e'⟩ := r
            dsimp only at H1 hcd hD2 hA0 hst
            rcases hcd with rfl | rfl
            · rw [show errV 0 = .nilIface from rfl] at H1
              have HST := Lib.hid (hst rfl)
              clear hA0 hst
              have hD3 : DkOk (m + 50) (1100 + 20 * (1 + 1)) e' := ⟨hD2.now, hD2.kept, hD2.f1, hD2.f2, by have := hD2.wait; omega, hD2.ats⟩
              clear hD2
              go_wp2_with (first | (go_at_call 158; (with_reducible refine Does.use hO (H1) tk_ (du_ ?_); clear hO; (try clear hf); intro x9 w9 hO hf)) | (refine sq_ ?_; clear hO; (try clear hf); intro w9 hO hf))
              refine ⟨⟨2, e', by go_num, HST, hD3, ?_⟩, by simp [intOf]⟩
              (try simp only [CA])
              exact hO.cut sb_
            · have HE := Lib.hid (hA0 (by omega))
              clear hA0 hst hD2
              rw [show errV 10 = .iface 124 (.int .i64 10) from rfl] at H1
              go_wp2_with (first | (go_at_call 158; (with_reducible refine Does.use hO (H1) tk_ (du_ ?_); clear hO; (try clear hf); intro x9 w9 hO hf)) | (with_reducible apply mk_set_own; (focus (exact st_ hO)); clear hO; intro w9 hO; (try dsimp only [List.set] at hO); (replace hf := fa_ hO)) | (refine sq_ ?_; clear hO; (try clear hf); intro w9 hO hf))
              (refine mk_end rfl (hO.pick (r := Blk D (.deferred (some []))) pk_) (fun w5 hO => ?_); (replace hf := fa_ hO); refine ⟨(.iface 124 (.int .i64 10)), by simp [results, Tryz.results80, go_sem, hf], 0, ?_, ?_⟩; (focus (rw [HE.out]; rfl)); rw [HE.out]; dsimp only; rw [show ckT _ _ _ _ _ _ 10 _ _ = [DiskR p _, .imm LibOk] from rfl]; (try simp only [CA]); exact hO.cut sb_)
          | 2, HS =>
            obtain ⟨d1, d2, hS, hS1, hS2⟩ : ∃ d1 d2, d.lays (cws (2 + 24 * s2) (allT R) (ckM R)) = (0, d1) ∧ d1.flush = (0, d2) ∧ d2.writeR (((((e2) % 2) : Nat)) : Int) (headT ⟨e2, s2, (allT R).size, f2⟩) = (0, e) := HS.out
            clear HS
            have H1 := flush_does p e hDe.f1 hDe.f2 (by rw [hDe.now]; omega) (by rw [hDe.now, hDe.kept])
            have hcd := flush_code2 e
            have hD2 := hDe.flush
            have hA1 := puts_3 (d := d) (ws := (cws (2 + 24 * s2) (allT R) (ckM R))) (n := ((e2) % 2)) (s := (headT ⟨e2, s2, (allT R).size, f2⟩)) hS hS1 hS2
            have hA0 := fun (_ : e.flush.1 ≠ 0) => hA1
            have hst := fun (h : e.flush.1 = 0) => show stgP d (cws (2 + 24 * s2) (allT R) (ckM R)) ((e2) % 2) (headT ⟨e2, s2, (allT R).size, f2⟩) 3 e.flush.2 from hA1.trans (Prod.ext h rfl)
            clear hA1
            clear hS hS1 hS2
            generalize e.flush = r at *
            obtain ⟨rc, e'⟩ := r
            dsimp only at H1 hcd hD2 hA0 hst
            rcases hcd with rfl | rfl
            · rw [show errV 0 = .nilIface from rfl] at H1
              have HST := Lib.hid (hst rfl)
              clear hA0 hst
              have hD3 : DkOk (m + 50) (1100 + 20 * (2 + 1)) e' := ⟨hD2.now, hD2.kept, hD2.f1, hD2.f2, by have := hD2.wait; omega, hD2.ats⟩
              clear hD2
              go_wp2_with (first | (go_at_call 145; (with_reducible refine Does.use hO (H1) tk_ (du_ ?_); clear hO; (try clear hf); intro x9 w9 hO hf)) | (refine sq_ ?_; clear hO; (try clear hf); intro w9 hO hf))
              refine ⟨⟨3, e', by go_num, HST, hD3, ?_⟩, by simp [intOf]⟩
              (try simp only [CA])
              exact hO.cut sb_
            · have HE := Lib.hid (hA0 (by omega))
              clear hA0 hst hD2
              rw [show errV 10 = .iface 124 (.int .i64 10) from rfl] at H1
              go_wp2_with (first | (go_at_call 145; (with_reducible refine Does.use hO (H1) tk_ (du_ ?_); clear hO; (try clear hf); intro x9 w9 hO hf)) | (with_reducible apply mk_set_own; (focus (exact st_ hO)); clear hO; intro w9 hO; (try dsimp only [List.set] at hO); (replace hf := fa_ hO)) | (refine sq_ ?_; clear hO; (try clear hf); intro w9 hO hf))
              (refine mk_end rfl (hO.pick (r := Blk D (.deferred (some []))) pk_) (fun w5 hO => ?_); (replace hf := fa_ hO); refine ⟨(.iface 124 (.int .i64 10)), by simp [results, Tryz.results80, go_sem, hf], 0, ?_, ?_⟩; (focus (rw [HE.out]; rfl)); rw [HE.out]; dsimp only; rw [show ckT _ _ _ _ _ _ 10 _ _ = [DiskR p _, .imm LibOk] from rfl]; (try simp only [CA]); exact hO.cut sb_)
          | 3, HS =>
            have hS : d.puts (cws (2 + 24 * s2) (allT R) (ckM R)) ((e2) % 2) (headT ⟨e2, s2, (allT R).size, f2⟩) = (0, e) := HS.out
            obtain ⟨hdn, hst⟩ := hP.out e hS
            have HE := Lib.hid hS
            clear hS HS
            have HSC := sectors_reads p e
            rw [hst.len, show ((m + 50 : Nat) : Int) = (m : Int) + 50 from by omega] at HSC
            have HOP := open_does p e 50 m (f2) (secs e.now 50 m) [] 0 hdn (by omega) (by rw [hst.len]; omega) (by rw [hst.len]; omega) hst.full hst.f1 (by omega) rfl (by have := hst.sc; rw [Nat.add_sub_cancel] at this; exact this)
            clear hst hdn
            go_wp2_with (first | (refine sq_ ?_; clear hO; (try clear hf); intro w9 hO hf))
            (refine rg_ hO ((1, 0) :: (0, 1) :: (0, 2) :: (1, 3) :: (1, 4) :: (0, 5) :: (0, 6) :: (1, 7) :: (3, 8) :: (0, 9) :: (0, 10) :: (1, 11) :: (5, 12) :: (0, 13) :: (0, 14) :: (0, 15) :: (0, 16) :: (0, 17) :: (0, 18) :: (0, 19) :: []) ?_; clear hO; intro w9 hO; replace hf := fa_ hO; (repeat (first | (apply inRun_p _ rfl rfl rfl; focus (intro w8 K8 hK8; (repeat (first | go_skip | go_guarded | go_step)); exact hK8)) | (apply inRun_l _ rfl rfl rfl; focus (intro w8 hx8 K8 hK8; have hO := hO.ext hx8; (replace hf := fa_ hO); skip; (repeat (first | go_skip | go_guarded | go_step)); exact hK8)) | (apply inRun_q _ rfl; (focus (intro w8 hx8 K8 hK8; have hO := hO.ext hx8; (replace hf := fa_ hO); (repeat (first | go_skip | go_guarded | go_step | (go_at_call 143; (with_reducible refine Reads.use hO (HSC) tk_ ?_; intro w7 hx7 hO7; clear hO7; dsimp only)))); (first | exact xt_ | exact hK8 _ xt_))); (focus (exact rfl)); intro w8 hx8; replace hO := hO.ext hx8; clear hx8; (replace hf := fa_ hO)))))
            (refine inRun_d rfl ?_; intro K8 hK8; (repeat (first | go_skip | go_guarded | go_step)); (go_at_call 159; (with_reducible refine Does.use hO (HOP) tk_ (du_ ?_); clear hO; (try clear hf); intro x9 w9 hO hf; (obtain ⟨q9, ⟨oa, oc⟩, DD⟩ := x9; dsimp only at hO ⊢; (replace hf := fa_ hO)))); (repeat go_step); refine hK8 _ _ trivial ?_; clear hK8 K8)
            (refine ss_ hO ?_; clear hO; (try clear hf); intro w9 hO hf)
            refine inRun_nil ?_
            go_wp2_with (first | (refine sq_ ?_; clear hO; (try clear hf); intro w9 hO hf))
            (refine wp_region_run (fun w8 => Own _ _ w8 (Var bs [.pointer (some ⟨s, 0, none⟩)] 126 :: Var bh [.int .i64 (e2 : Int), .int .i64 (s2 : Int), .int .i64 ((allT R).size : Int), .int .i64 (f2 : Int)] 223 :: L0)) (fun _ _ h hx => h.ext hx) (hO.cut sb_) ((2, 0) :: (2, 1) :: (2, 2) :: (0, 3) :: (0, 4) :: (0, 5) :: (5, 6) :: (0, 7) :: (0, 8) :: (5, 9) :: []) (by kernel_rfl) (by kernel_rfl) rfl (fun _ _ d _ _ h => by cases d <;> exact h) ?_; intro w9 hx9; replace hO := hO.ext hx9; clear hx9; (replace hf := fa_ hO); (repeat (first | (apply inRun_p _ rfl rfl rfl; focus (intro w8 K8 hK8; (repeat (first | go_skip | go_guarded | go_step)); exact hK8)) | (apply inRun_s _ rfl rfl rfl; focus (intro w8 hI8 K8 hK8; (try clear hf); have hf := hI8.facts; (try simp only [FZ, Nat.reduceAdd] at hf); skip; (repeat (first | go_skip | go_guarded | go_step)); exact hK8)))))
            (refine inRun_d rfl ?_; intro K8 hK8; (repeat (first | go_skip | go_guarded | go_step)); (apply k_set_ownS (G := K8 _ _)); (focus (exact st_ hO)); clear hO; intro w9 hO; (try dsimp only [List.set] at hO); (replace hf := fa_ hO); refine hK8 _ _ (hO.cut sb_) ?_; clear hK8 K8)
            (repeat (first | (apply inRun_p _ rfl rfl rfl; focus (intro w8 K8 hK8; (repeat (first | go_skip | go_guarded | go_step)); exact hK8)) | (apply inRun_s _ rfl rfl rfl; focus (intro w8 hI8 K8 hK8; (try clear hf); have hf := hI8.facts; (try simp only [FZ, Nat.reduceAdd] at hf); skip; (repeat (first | go_skip | go_guarded | go_step)); exact hK8))))
            (refine inRun_d rfl ?_; intro K8 hK8; (repeat (first | go_skip | go_guarded | go_step)); (apply k_set_ownS (G := K8 _ _)); (focus (exact st_ hO)); clear hO; intro w9 hO; (try dsimp only [List.set] at hO); (replace hf := fa_ hO); refine hK8 _ _ (hO.cut sb_) ?_; clear hK8 K8)
            refine inRun_nil ?_
            go_wp2_with (first | (with_reducible apply mk_set_own; (focus (exact st_ hO)); clear hO; intro w9 hO; (try dsimp only [List.set] at hO); (replace hf := fa_ hO)) | (refine sq_ ?_; clear hO; (try clear hf); intro w9 hO hf))
            (refine mk_end rfl (hO.pick (r := Blk D (.deferred (some []))) pk_) (fun w5 hO => ?_); (replace hf := fa_ hO); refine ⟨.nilIface, by simp [results, Tryz.results80, go_sem, hf], q9, ?_, ?_⟩; (focus (rw [HE.out]; rfl)); rw [HE.out]; dsimp only; unfold ckT; rw [if_pos rfl]; dsimp only [stC]; (try simp only [CA]); exact hO.cut sb_)
          | i + 4, HS => exact HS.out.elim
      · rw [hRx] at hNO
        obtain ⟨e', hE, hO⟩ := hNO
        refine ⟨v, rfl, .done, some .ret, _, by simp, hO, fun w4 hO => ?_⟩
        dsimp only [behind]
        clear hX hRx HC hO2
        have HE := Lib.hid ((puts_0 (n := (e2) % 2) (s := headT ⟨e2, s2, (allT R).size, f2⟩) (by rw [hE]; simp)).trans hE)
        clear hE
        rw [show errV 10 = .iface 124 (.int .i64 10) from rfl] at hO
        (replace hf := fa_ hO)
        go_wp2_with (first | (refine sq_ ?_; clear hO; (try clear hf); intro w9 hO hf))
        (refine mk_end rfl (hO.pick (r := Blk D (.deferred (some []))) pk_) (fun w5 hO => ?_); (replace hf := fa_ hO); refine ⟨(.iface 124 (.int .i64 10)), by simp [results, Tryz.results80, go_sem, hf], 0, ?_, ?_⟩; (focus (rw [HE.out]; rfl)); rw [HE.out]; dsimp only; rw [show ckT _ _ _ _ _ _ 10 _ _ = [DiskR p _, .imm LibOk] from rfl]; (try simp only [CA]); exact hO.cut sb_)
  subst ha0 hQ0
  simp only [Act.put, List.setIfInBounds_toArray, List.set_cons_succ, List.set_cons_zero] at key
  refine inPlan_forkI rfl rfl ?_ ?_
  · (intro K8 hK8; (repeat (first | go_skip | go_guarded | go_step)); (go_at_call 156; (with_reducible refine Reads.use hO (HNX) tk_ (ru_ ?_); clear hO; (try clear hf); intro w9 hO hf)); (repeat go_step); refine hK8 _ _ (hO.cut sb_) ?_; clear hK8 K8)
    (repeat (first | (apply inPlan_p _ rfl rfl rfl; focus (intro w8 K8 hK8; (repeat (first | go_skip | go_guarded | go_step)); exact hK8)) | (apply inPlan_s _ rfl rfl rfl; focus (intro w8 hI8 K8 hK8; (try clear hf); have hf := fa_ hI8; (repeat (first | go_skip | go_guarded | go_step)); exact hK8))))
    refine inPlan_oneI rfl ?_
    (intro K8 hK8; (repeat (first | go_skip | go_guarded | go_step)); refine hK8 _ _ ((hO.alloc _ _).cut sb_) ?_; clear hK8 K8; with_reducible refine inPlan_alloc_own hO ?_; clear hO; intro w9 hO; (replace hf := fa_ hO))
    refine inPlan_oneI rfl ?_
    (intro K8 hK8; (repeat (first | go_skip | go_guarded | go_step)); (apply k_set_ownS (G := K8 _ _)); (focus (exact st_ hO)); clear hO; intro w9 hO; (try dsimp only [List.set] at hO); (replace hf := fa_ hO); refine hK8 _ _ (hO.cut sb_) ?_; clear hK8 K8)
    refine inPlan_done ?_
    exact key _ _ _ _ (hO.cut sb_)
  · (intro K8 hK8; (repeat (first | go_skip | go_guarded | go_step)); refine hK8 _ _ ((hO.alloc _ _).cut sb_) ?_; clear hK8 K8; with_reducible refine inPlan_alloc_own hO ?_; clear hO; intro w9 hO; (replace hf := fa_ hO))
    refine inPlan_oneI rfl ?_
    (intro K8 hK8; (repeat (first | go_skip | go_guarded | go_step)); (go_at_call 156; (with_reducible refine Reads.use hO (HNX) tk_ (ru_ ?_); clear hO; (try clear hf); intro w9 hO hf)); (repeat go_step); refine hK8 _ _ (hO.cut sb_) ?_; clear hK8 K8)
    (repeat (first | (apply inPlan_p _ rfl rfl rfl; focus (intro w8 K8 hK8; (repeat (first | go_skip | go_guarded | go_step)); exact hK8)) | (apply inPlan_s _ rfl rfl rfl; focus (intro w8 hI8 K8 hK8; (try clear hf); have hf := fa_ hI8; (repeat (first | go_skip | go_guarded | go_step)); exact hK8))))
    refine inPlan_oneI rfl ?_
    (intro K8 hK8; (repeat (first | go_skip | go_guarded | go_step)); (apply k_set_ownS (G := K8 _ _)); (focus (exact st_ hO)); clear hO; intro w9 hO; (try dsimp only [List.set] at hO); (replace hf := fa_ hO); refine hK8 _ _ (hO.cut sb_) ?_; clear hK8 K8)
    refine inPlan_done ?_
    exact key _ _ _ _ (hO.cut sb_)
end Go.Proofs.YtagcmjmcjpjihaaGreatDoor
namespace Go.Proofs.YtagcmjmcjpjihaaGreatDoor
open Go.RowKit Go.Lib
/-- A store in hand. -/
def stT (s p m : Nat) (h : Hd) (R : List Rw) (u : Nat) (d : Dk) (q b : Nat) : List Rs :=
  [Var s (stC p h.ep h.si h.sz h.fi q b) 233, Var q [.pointer (some ⟨p, 0, none⟩), .int .i64 ((50 : Nat) : Int), .int .i64 (m : Int), .int .i64 (h.fi : Int), .int .i64 (u : Int)] 295, StM b R, DiskR p d]
theorem StUp.facts {m : Nat} {d : Dk} {h : Hd} {R0 : List Rw} {W : List (List Ch)} {u : Nat} (U : StUp (m + 50) d h R0 W u) : 4 ≤ m ∧ m ≤ 150 ∧ u ≤ m ∧ h.si ≤ 1 ∧ h.sz ≤ 2304 ∧ h.fi ≤ 1000000 ∧ (h.ep + 1 ≤ 5000 → h.fi + m ≤ 1000000) ∧ 1 ≤ h.fi ∧ h.ep ≤ 5000 := by
  have k1 := U.st.k1
  have k2 := U.st.k2
  have hu := U.st.used
  have s1 := U.st.s1
  have f1 := U.st.f1
  have f2 := U.st.f2
  have e2 := U.st.e2
  have hz := U.st.sz
  have := U.st.rows.size
  exact ⟨by omega, by omega, by omega, s1, by omega, by omega, fun _ => by omega, f1, e2⟩
theorem ckpt_gen (s b p q m u : Nat) (d : Dk) (h : Hd) (R0 : List Rw) (W0 : List (List Ch)) (U : StUp (m + 50) d h R0 W0 u) (he : h.ep + 1 ≤ 5000) :
    ∃ (c : Nat) (d' : Dk), ((c = 0 ∧ StUp (m + 50) d' (ckH (m + 50) h (rowsW R0 W0)) (rowsW R0 W0) [] 0 ∧ (d.fuse = -1 → d'.fuse = -1)) ∨ (c = 10 ∧ d.fuse ≠ -1 ∧ DkOk (m + 50) 2000 d' ∧ ∀ K : Int, StOn (m + 50) (d'.restart K) (h.ep + 1) (rowsW R0 W0))) ∧
      Does Tryz.prog 80 #[.pointer (some ⟨s, 0, none⟩)] (stT s p m h (rowsW R0 W0) u d q b ++ [.imm LibOk])
        (fun q' : Nat => (errV c, ckT s p m b (ckH (m + 50) h (rowsW R0 W0)) (rowsW R0 W0) c d' q')) := by
  obtain ⟨g1, g2, g3, g4, g5, g6, g7, g8, g9⟩ := U.facts
  have HC := ckpt_does s b p q m u d h (rowsW R0 W0) U.st.now U.ok g1 g2 g3 he g4 g5 g6 (g7 he)
  rcases U.ck he with ⟨d', e, U', hf⟩ | ⟨hne, d', e, hd, hon⟩
  · rw [e] at HC
    exact ⟨0, d', .inl ⟨rfl, U', hf⟩, HC fun e' h' => by
      have : d' = e' := by injection h'
      subst this
      exact ⟨U'.calm.up, U'.st⟩⟩
  · rw [e] at HC
    exact ⟨10, d', .inr ⟨rfl, hne, hd, hon⟩, HC fun e' h' => by injection h' with h1 h2; cases h1⟩
/-- len(s.rows) -/
theorem wpList_lenM {P : Program} {S : Nat → Prop} {W w : World} {l l0 : List Rs} {ops : Array Oper} {rest : List Oper} {a : Act} {Q : Exit → Act → World → Prop} {o : Oper} {b : Nat} {R : List Rw} {t kt e : TypeId} (hO : Own S W w l) (hp : Pick l (StM b R) l0) (hg : o.guard = none) (m : Operand)
    (hop : o.op = Op.call { callee := Callee.builtin Builtin.len, args := #[m], argTypes := #[t] }) (ht : P.underlying t = some (.map kt e))
    (hm : a.eval m = .map (some b)) (h : wpList P ops Q rest (a.put o.dst (.int .i64 R.length)) w) : wpList P ops Q (o :: rest) a w := by
  obtain ⟨⟨clock, L⟩, h8⟩ := (hO.pick hp).ofEx
  replace h8 := h8.unpack
  dsimp only at h8
  simp only [List.cons_append, List.nil_append] at h8
  have hok := h8.factOf (r := .pure (SesOk L clock R)) pk_
  refine wpList_lenE (b := b) (E := L.map SE.en) (clock := clock) h8 pk_ hg m hop ht hm ?_
  rw [List.length_map, show L.length = R.length from hok.len]
  exact h
end Go.Proofs.YtagcmjmcjpjihaaGreatDoor
namespace Go.Proofs.YtagcmjmcjpjihaaGreatDoor
open Go.RowKit Go.Lib
set_option maxHeartbeats 4000000 in
set_option maxRecDepth 100000 in
theorem scommit_many (s b p q m u ep si sz fi : Nat) (d : Dk) (R : List Rw) (a : Option Addr) (n cap : Nat) (hn : 12 < n) (hn2 : n ≤ 100000) {φ : World → Prop} :
    Does Tryz.prog 71 #[.pointer (some ⟨s, 0, none⟩), .slice a n cap] [Var s [.pointer (some ⟨p, 0, none⟩), .int .i64 (ep : Int), .int .i64 (si : Int), .int .i64 (sz : Int), .int .i64 (fi : Int), .pointer (some ⟨q, 0, none⟩), .map (some b)] 233, Var q [.pointer (some ⟨p, 0, none⟩), .int .i64 ((50 : Nat) : Int), .int .i64 (m : Int), .int .i64 (fi : Int), .int .i64 (u : Int)] 295, StM b R, DiskR p d, .imm φ] (fun _ : Unit => (errV 2, [Var s [.pointer (some ⟨p, 0, none⟩), .int .i64 (ep : Int), .int .i64 (si : Int), .int .i64 (sz : Int), .int .i64 (fi : Int), .pointer (some ⟨q, 0, none⟩), .map (some b)] 233, Var q [.pointer (some ⟨p, 0, none⟩), .int .i64 ((50 : Nat) : Int), .int .i64 (m : Int), .int .i64 (fi : Int), .int .i64 (u : Int)] 295, StM b R, DiskR p d, .imm φ])) := by
  rw [show errV 2 = .iface 124 (.int .i64 2) from rfl]
  intro S W w L0 hO; simp only [CA] at hO
  (replace hf := fa_ hO)
  go_enter Tryz.func71, Tryz.ntmps71
  go_wp2_with (first | (refine sq_ ?_; clear hO; (try clear hf); intro w9 hO hf))
  go_ret
  refine ⟨(), rfl, ?_⟩
  dsimp only
  (try simp only [CA])
  exact hO.cut sb_
set_option maxHeartbeats 4000000 in
set_option maxRecDepth 100000 in
theorem scommit_fault (s b p q m u ep si sz fi : Nat) (d : Dk) (R : List Rw) (a : Option Addr) (n cap : Nat) (C : List Ch) (hn : n ≤ 12) (hC : C.length = n) (hsz : ∀ c ∈ C, c.key.size ≤ 300 ∧ c.val.size ≤ 1000) (N : Nat) (hN : faultN C = N) (hb : N ≠ 0)
    {φ : World → Prop} (hφ : ∀ w, φ w → LibOk w ∧ ValsAt w a (chs C)) :
    Does Tryz.prog 71 #[.pointer (some ⟨s, 0, none⟩), .slice a n cap] [Var s [.pointer (some ⟨p, 0, none⟩), .int .i64 (ep : Int), .int .i64 (si : Int), .int .i64 (sz : Int), .int .i64 (fi : Int), .pointer (some ⟨q, 0, none⟩), .map (some b)] 233, Var q [.pointer (some ⟨p, 0, none⟩), .int .i64 ((50 : Nat) : Int), .int .i64 (m : Int), .int .i64 (fi : Int), .int .i64 (u : Int)] 295, StM b R, DiskR p d, .imm φ] (fun _ : Unit => (errV N, [Var s [.pointer (some ⟨p, 0, none⟩), .int .i64 (ep : Int), .int .i64 (si : Int), .int .i64 (sz : Int), .int .i64 (fi : Int), .pointer (some ⟨q, 0, none⟩), .map (some b)] 233, Var q [.pointer (some ⟨p, 0, none⟩), .int .i64 ((50 : Nat) : Int), .int .i64 (m : Int), .int .i64 (fi : Int), .int .i64 (u : Int)] 295, StM b R, DiskR p d, .imm φ])) := by
  have HSZ := Lib.hid hsz
  have HN := Lib.hid hN
  clear hsz hN
  intro S W w L0 hO; simp only [CA] at hO
  (replace hf := fa_ hO)
  go_enter Tryz.func71, Tryz.ntmps71
  go_wp2_with (first | (refine sq_ ?_; clear hO; (try clear hf); intro w9 hO hf))
  have hO9 := hO
  clear hO hf
  go_loopw [17] (fun v wr => ∃ (i : Nat), v = .int .i64 i ∧ i ≤ n ∧ Hid (faultN (C.drop i) = N) ∧ Own S W wr ([Var s [.pointer (some ⟨p, 0, none⟩), .int .i64 (ep : Int), .int .i64 (si : Int), .int .i64 (sz : Int), .int .i64 (fi : Int), .pointer (some ⟨q, 0, none⟩), .map (some b)] 233, Var q [.pointer (some ⟨p, 0, none⟩), .int .i64 ((50 : Nat) : Int), .int .i64 (m : Int), .int .i64 (fi : Int), .int .i64 (u : Int)] 295, StM b R, DiskR p d, .imm φ] ++ L0)) (fun v _ => n - (intOf v).toNat)
  case atStart => exact ⟨0, rfl, by omega, HN, (by (try simp only [CA]); exact hO9.cut sb_)⟩
  case round =>
    clear hO9
    obtain ⟨i, rfl, hi, HI, hO⟩ := hrel
    rename World => w1
    simp only [List.cons_append, List.nil_append] at hO
    (replace hf := fa_ hO)
    by_cases hlt : i < n
    · have hi2 : i < C.length := by omega
      obtain ⟨b1, off, rfl⟩ := ChAt.some (a := a) ((hφ _ (Own.immOf (φ := φ) hO pk_)).2) (by omega)
      obtain ⟨c0, c1, c2⟩ := ChAt.at (w := w1) (l := C) (b := b1) (off := off) ((hφ _ (Own.immOf (φ := φ) hO pk_)).2) hi2
      obtain ⟨hks, hvs⟩ := HSZ.out _ (List.getElem_mem hi2)
      have hI := HI.out
      rw [List.drop_eq_getElem_cons hi2, faultN] at hI
      clear HI
      generalize C[i] = c at *
      have HB := fun w h => chCheck_any c w h hks hvs
      by_cases h0 : chN c = 0
      · rw [if_pos h0] at hI
        have HI := Lib.hid hI
        rw [h0, show errV 0 = .nilIface from rfl] at HB
        unfold Ch.v at HB
        clear hI h0
        go_wp2_with (first | (go_at_call 149; (with_reducible apply Calls.mono (HB _ (hφ _ (Own.immOf (φ := φ) hO pk_)).1); refine cu_ ?_; clear hO; (try clear hf); intro w8 hO hf)) | (refine sq_ ?_; clear hO; (try clear hf); intro w9 hO hf))
        refine ⟨⟨i + 1, by go_num, by omega, HI, ?_⟩, by simp [intOf]; omega⟩
        (try simp only [CA])
        exact hO.cut sb_
      · rw [if_neg h0] at hI
        rw [hI] at HB
        obtain ⟨m, rfl⟩ : ∃ m, N = m + 1 := ⟨N - 1, by omega⟩
        rw [show errV (m + 1) = .iface 124 (.int .i64 ((m + 1 : Nat) : Int)) from rfl] at HB
        unfold Ch.v at HB
        clear hI h0
        go_wp2_with (first | (go_at_call 149; (with_reducible apply Calls.mono (HB _ (hφ _ (Own.immOf (φ := φ) hO pk_)).1); refine cu_ ?_; clear hO; (try clear hf); intro w8 hO hf)) | (refine sq_ ?_; clear hO; (try clear hf); intro w9 hO hf))
        go_ret
        refine ⟨(), rfl, ?_⟩
        dsimp only
        (try simp only [CA])
        exact hO.cut sb_
    · have hI := HI.out
      rw [List.drop_of_length_le (by omega), faultN] at hI
      omega
set_option maxHeartbeats 4000000 in
set_option maxRecDepth 100000 in
theorem scommit_full (s b p q m u ep si sz fi : Nat) (d : Dk) (R : List Rw) (a : Option Addr) (n cap : Nat) (C : List Ch) (hn : n ≤ 12) (hC : C.length = n) (hok : ∀ c ∈ C, ChOk c) (hD : DkOk (m + 50) 1000 d) (hm : m ≤ 150) (hu : u ≤ m) {φ : World → Prop} (hφ : ∀ w, φ w → LibOk w ∧ ValsAt w a (chs C)) (hb : 40 < (C.foldl appR R).length ∨ m < n + 1) :
    Does Tryz.prog 71 #[.pointer (some ⟨s, 0, none⟩), .slice a n cap] [Var s [.pointer (some ⟨p, 0, none⟩), .int .i64 (ep : Int), .int .i64 (si : Int), .int .i64 (sz : Int), .int .i64 (fi : Int), .pointer (some ⟨q, 0, none⟩), .map (some b)] 233, Var q [.pointer (some ⟨p, 0, none⟩), .int .i64 ((50 : Nat) : Int), .int .i64 (m : Int), .int .i64 (fi : Int), .int .i64 (u : Int)] 295, StM b R, DiskR p d, .imm φ] (fun _ : Unit => (errV 8, [Var s [.pointer (some ⟨p, 0, none⟩), .int .i64 (ep : Int), .int .i64 (si : Int), .int .i64 (sz : Int), .int .i64 (fi : Int), .pointer (some ⟨q, 0, none⟩), .map (some b)] 233, Var q [.pointer (some ⟨p, 0, none⟩), .int .i64 ((50 : Nat) : Int), .int .i64 (m : Int), .int .i64 (fi : Int), .int .i64 (u : Int)] 295, StM b R, DiskR p d, .imm φ])) := by
  rw [show errV 8 = .iface 124 (.int .i64 8) from rfl]
  have HOK := Lib.hid hok
  have HAP := sapply_does b R a n cap C hC (by omega)
  have HSC := sectors_reads p d
  rw [hD.now, show ((m + 50 : Nat) : Int) = (m : Int) + 50 from by omega] at HSC
  have HR := room_reads p q 50 m fi u (by omega) (by omega)
  have HRL := Lib.hid (rfl : (C.foldl appR R).length = (C.foldl appR R).length)
  generalize hR' : C.foldl appR R = R' at *
  clear HRL
  have HR' := Lib.hid hR'
  clear hok hR'
  intro S W w L0 hO
  simp only [CA] at hO
  (replace hf := fa_ hO)
  go_enter Tryz.func71, Tryz.ntmps71
  go_wp2_with (first | (refine sq_ ?_; clear hO; (try clear hf); intro w9 hO hf))
  have hO9 := hO
  clear hO hf
  go_loopw [17] (fun v wr => ∃ (i : Nat), v = .int .i64 i ∧ i ≤ n ∧ Own S W wr ([Var s [.pointer (some ⟨p, 0, none⟩), .int .i64 (ep : Int), .int .i64 (si : Int), .int .i64 (sz : Int), .int .i64 (fi : Int), .pointer (some ⟨q, 0, none⟩), .map (some b)] 233, Var q [.pointer (some ⟨p, 0, none⟩), .int .i64 ((50 : Nat) : Int), .int .i64 (m : Int), .int .i64 (fi : Int), .int .i64 (u : Int)] 295, StM b R, DiskR p d, .imm φ] ++ L0)) (fun v _ => n - (intOf v).toNat)
  case atStart => exact ⟨0, rfl, by omega, (by (try simp only [CA]); exact hO9.cut sb_)⟩
  case round =>
    clear hO9
    obtain ⟨i, rfl, hi, hO⟩ := hrel
    rename World => w1
    simp only [List.cons_append, List.nil_append] at hO
    (replace hf := fa_ hO)
    by_cases hlt : i < n
    · have hi2 : i < C.length := by omega
      obtain ⟨b1, off, rfl⟩ := ChAt.some (a := a) ((hφ _ (Own.immOf (φ := φ) hO pk_)).2) (by omega)
      obtain ⟨c0, c1, c2⟩ := ChAt.at (w := w1) (l := C) (b := b1) (off := off) ((hφ _ (Own.immOf (φ := φ) hO pk_)).2) hi2
      have hcok := HOK.out _ (List.getElem_mem hi2)
      generalize C[i] = c at *
      have hks := key_size hcok.1
      have hvs := hcok.2.2
      have HB := fun w h => chCheck_any c w h (by omega) (by omega)
      rw [chN_ok hcok, show errV 0 = .nilIface from rfl] at HB
      unfold Ch.v at HB
      go_wp2_with (first | (go_at_call 149; (with_reducible apply Calls.mono (HB _ (hφ _ (Own.immOf (φ := φ) hO pk_)).1); refine cu_ ?_; clear hO; (try clear hf); intro w8 hO hf)) | (refine sq_ ?_; clear hO; (try clear hf); intro w9 hO hf))
      refine ⟨⟨i + 1, by go_num, by omega, ?_⟩, by simp [intOf]; omega⟩
      (try simp only [CA])
      exact hO.cut sb_
    · replace hO := ((hO.pick (r := .imm φ) pk_).again).imp (ψ := fun w => ValsAt w a (chs C)) fun w h => (hφ w h).2
      (replace hf := fa_ hO)
      by_cases h40 : 40 < R'.length
      · go_wp2_with (first | (go_at_call 150; (with_reducible refine Does.use hO (HAP) tk_ (du_ ?_); clear hO; (try clear hf); intro x9 w9 hO hf; rename Nat => b2)) | ((with_reducible show wpList _ _ _ (Oper.mk _ (.call { callee := .builtin .len, args := #[.tmp 33], argTypes := _ }) _ _ _ _ :: _) _ _); (refine wpList_lenM hO pk_ rfl (.tmp 33) rfl Tryz.underlying229 rfl ?_)) | (refine sq_ ?_; clear hO; (try clear hf); intro w9 hO hf))
        go_ret; refine ⟨(), rfl, ?_⟩; dsimp only; (try simp only [CA]); exact hO.cut sb_
      · have hmn : m < n + 1 := hb.resolve_left h40
        go_wp2_with (first | (go_at_call 150; (with_reducible refine Does.use hO (HAP) tk_ (du_ ?_); clear hO; (try clear hf); intro x9 w9 hO hf; rename Nat => b2)) | ((with_reducible show wpList _ _ _ (Oper.mk _ (.call { callee := .builtin .len, args := #[.tmp 33], argTypes := _ }) _ _ _ _ :: _) _ _); (refine wpList_lenM hO pk_ rfl (.tmp 33) rfl Tryz.underlying229 rfl ?_)) | (go_at_call 143; (with_reducible refine Reads.use hO (HSC) tk_ (ru_ ?_); clear hO; (try clear hf); intro w9 hO hf)) | (refine sq_ ?_; clear hO; (try clear hf); intro w9 hO hf))
        go_ret; refine ⟨(), rfl, ?_⟩; dsimp only; (try simp only [CA]); exact hO.cut sb_
set_option maxHeartbeats 4000000 in
set_option maxRecDepth 100000 in
theorem scommit_add0 (s b p q m u ep si sz fi : Nat) (d d' : Dk) (R : List Rw) (a : Option Addr) (n cap : Nat) (C : List Ch) (hn : n ≤ 12) (hC : C.length = n) (hok : ∀ c ∈ C, ChOk c) (hD : DkOk (m + 50) 1000 d) (hm : m ≤ 150) (hu : u ≤ m) {φ : World → Prop} (hφ : ∀ w, φ w → LibOk w ∧ ValsAt w a (chs C)) (hb : (C.foldl appR R).length ≤ 40) (hroom : u + n + 1 ≤ m)
    (HA : Does Tryz.prog 152 #[.pointer (some ⟨q, 0, none⟩), .slice a n cap] [Var q [.pointer (some ⟨p, 0, none⟩), .int .i64 ((50 : Nat) : Int), .int .i64 (m : Int), .int .i64 (fi : Int), .int .i64 (u : Int)] 295, DiskR p d, .imm φ] (fun _ : Unit => (errV 0, [Var q [.pointer (some ⟨p, 0, none⟩), .int .i64 ((50 : Nat) : Int), .int .i64 (m : Int), .int .i64 (fi : Int), .int .i64 ((u + n + 1 : Nat) : Int)] 295, DiskR p d', .imm φ]))) :
    Does Tryz.prog 71 #[.pointer (some ⟨s, 0, none⟩), .slice a n cap] [Var s [.pointer (some ⟨p, 0, none⟩), .int .i64 (ep : Int), .int .i64 (si : Int), .int .i64 (sz : Int), .int .i64 (fi : Int), .pointer (some ⟨q, 0, none⟩), .map (some b)] 233, Var q [.pointer (some ⟨p, 0, none⟩), .int .i64 ((50 : Nat) : Int), .int .i64 (m : Int), .int .i64 (fi : Int), .int .i64 (u : Int)] 295, StM b R, DiskR p d, .imm φ] (fun b' : Nat => (errV 0, [Var s [.pointer (some ⟨p, 0, none⟩), .int .i64 (ep : Int), .int .i64 (si : Int), .int .i64 (sz : Int), .int .i64 (fi : Int), .pointer (some ⟨q, 0, none⟩), .map (some b')] 233, Var q [.pointer (some ⟨p, 0, none⟩), .int .i64 ((50 : Nat) : Int), .int .i64 (m : Int), .int .i64 (fi : Int), .int .i64 ((u + n + 1 : Nat) : Int)] 295, StM b' (C.foldl appR R), DiskR p d', .imm φ])) := by
  rw [show errV 0 = .nilIface from rfl] at HA ⊢
  have HOK := Lib.hid hok
  have HAP := sapply_does b R a n cap C hC (by omega)
  have HSC := sectors_reads p d
  rw [hD.now, show ((m + 50 : Nat) : Int) = (m : Int) + 50 from by omega] at HSC
  have HR := room_reads p q 50 m fi u (by omega) (by omega)
  have HRL := Lib.hid (rfl : (C.foldl appR R).length = (C.foldl appR R).length)
  generalize hR' : C.foldl appR R = R' at *
  clear HRL
  have HR' := Lib.hid hR'
  clear hok hR'
  intro S W w L0 hO
  simp only [CA] at hO
  (replace hf := fa_ hO)
  go_enter Tryz.func71, Tryz.ntmps71
  go_wp2_with (first | (refine sq_ ?_; clear hO; (try clear hf); intro w9 hO hf))
  have hO9 := hO
  clear hO hf
  go_loopw [17] (fun v wr => ∃ (i : Nat), v = .int .i64 i ∧ i ≤ n ∧ Own S W wr ([Var s [.pointer (some ⟨p, 0, none⟩), .int .i64 (ep : Int), .int .i64 (si : Int), .int .i64 (sz : Int), .int .i64 (fi : Int), .pointer (some ⟨q, 0, none⟩), .map (some b)] 233, Var q [.pointer (some ⟨p, 0, none⟩), .int .i64 ((50 : Nat) : Int), .int .i64 (m : Int), .int .i64 (fi : Int), .int .i64 (u : Int)] 295, StM b R, DiskR p d, .imm φ] ++ L0)) (fun v _ => n - (intOf v).toNat)
  case atStart => exact ⟨0, rfl, by omega, (by (try simp only [CA]); exact hO9.cut sb_)⟩
  case round =>
    clear hO9
    obtain ⟨i, rfl, hi, hO⟩ := hrel
    rename World => w1
    simp only [List.cons_append, List.nil_append] at hO
    (replace hf := fa_ hO)
    by_cases hlt : i < n
    · have hi2 : i < C.length := by omega
      obtain ⟨b1, off, rfl⟩ := ChAt.some (a := a) ((hφ _ (Own.immOf (φ := φ) hO pk_)).2) (by omega)
      obtain ⟨c0, c1, c2⟩ := ChAt.at (w := w1) (l := C) (b := b1) (off := off) ((hφ _ (Own.immOf (φ := φ) hO pk_)).2) hi2
      have hcok := HOK.out _ (List.getElem_mem hi2)
      generalize C[i] = c at *
      have hks := key_size hcok.1
      have hvs := hcok.2.2
      have HB := fun w h => chCheck_any c w h (by omega) (by omega)
      rw [chN_ok hcok, show errV 0 = .nilIface from rfl] at HB
      unfold Ch.v at HB
      go_wp2_with (first | (go_at_call 149; (with_reducible apply Calls.mono (HB _ (hφ _ (Own.immOf (φ := φ) hO pk_)).1); refine cu_ ?_; clear hO; (try clear hf); intro w8 hO hf)) | (refine sq_ ?_; clear hO; (try clear hf); intro w9 hO hf))
      refine ⟨⟨i + 1, by go_num, by omega, ?_⟩, by simp [intOf]; omega⟩
      (try simp only [CA])
      exact hO.cut sb_
    · replace hO := ((hO.pick (r := .imm φ) pk_).again).imp (ψ := fun w => ValsAt w a (chs C)) fun w h => (hφ w h).2
      (replace hf := fa_ hO)
      have hroom2 : (u : Int) + n + 1 ≤ m := by omega
      go_wp2_with (first | (go_at_call 150; (with_reducible refine Does.use hO (HAP) tk_ (du_ ?_); clear hO; (try clear hf); intro x9 w9 hO hf; rename Nat => b2)) | ((with_reducible show wpList _ _ _ (Oper.mk _ (.call { callee := .builtin .len, args := #[.tmp 33], argTypes := _ }) _ _ _ _ :: _) _ _); (refine wpList_lenM hO pk_ rfl (.tmp 33) rfl Tryz.underlying229 rfl ?_)) | (go_at_call 143; (with_reducible refine Reads.use hO (HSC) tk_ (ru_ ?_); clear hO; (try clear hf); intro w9 hO hf)) | (go_at_call 151; (with_reducible refine Reads.use hO (HR) tk_ (ru_ ?_); clear hO; (try clear hf); intro w9 hO hf)) | (go_at_call 152; (with_reducible refine Does.use hO (HA) tk_ (du_ ?_); clear hO; (try clear hf); intro x9 w9 hO hf)) | (refine sq_ ?_; clear hO; (try clear hf); intro w9 hO hf))
      go_ret; refine ⟨b2, rfl, ?_⟩; dsimp only; (try simp only [CA]); exact hO.cut sb_
set_option maxHeartbeats 4000000 in
set_option maxRecDepth 100000 in
theorem scommit_add10 (s b p q m u u' ep si sz fi : Nat) (d d' : Dk) (R : List Rw) (a : Option Addr) (n cap : Nat) (C : List Ch) (hn : n ≤ 12) (hC : C.length = n) (hok : ∀ c ∈ C, ChOk c) (hD : DkOk (m + 50) 1000 d) (hm : m ≤ 150) (hu : u ≤ m) {φ : World → Prop} (hφ : ∀ w, φ w → LibOk w ∧ ValsAt w a (chs C)) (hb : (C.foldl appR R).length ≤ 40) (hroom : u + n + 1 ≤ m)
    (HA : Does Tryz.prog 152 #[.pointer (some ⟨q, 0, none⟩), .slice a n cap] [Var q [.pointer (some ⟨p, 0, none⟩), .int .i64 ((50 : Nat) : Int), .int .i64 (m : Int), .int .i64 (fi : Int), .int .i64 (u : Int)] 295, DiskR p d, .imm φ] (fun _ : Unit => (errV 10, [Var q [.pointer (some ⟨p, 0, none⟩), .int .i64 ((50 : Nat) : Int), .int .i64 (m : Int), .int .i64 (fi : Int), .int .i64 (u' : Int)] 295, DiskR p d', .imm φ]))) :
    Does Tryz.prog 71 #[.pointer (some ⟨s, 0, none⟩), .slice a n cap] [Var s [.pointer (some ⟨p, 0, none⟩), .int .i64 (ep : Int), .int .i64 (si : Int), .int .i64 (sz : Int), .int .i64 (fi : Int), .pointer (some ⟨q, 0, none⟩), .map (some b)] 233, Var q [.pointer (some ⟨p, 0, none⟩), .int .i64 ((50 : Nat) : Int), .int .i64 (m : Int), .int .i64 (fi : Int), .int .i64 (u : Int)] 295, StM b R, DiskR p d, .imm φ] (fun _ : Unit => (errV 10, [DiskR p d', .imm φ])) := by
  rw [show errV 10 = .iface 124 (.int .i64 10) from rfl] at HA ⊢
  have HOK := Lib.hid hok
  have HAP := sapply_does b R a n cap C hC (by omega)
  have HSC := sectors_reads p d
  rw [hD.now, show ((m + 50 : Nat) : Int) = (m : Int) + 50 from by omega] at HSC
  have HR := room_reads p q 50 m fi u (by omega) (by omega)
  have HRL := Lib.hid (rfl : (C.foldl appR R).length = (C.foldl appR R).length)
  generalize hR' : C.foldl appR R = R' at *
  clear HRL
  have HR' := Lib.hid hR'
  clear hok hR'
  intro S W w L0 hO
  simp only [CA] at hO
  (replace hf := fa_ hO)
  go_enter Tryz.func71, Tryz.ntmps71
  go_wp2_with (first | (refine sq_ ?_; clear hO; (try clear hf); intro w9 hO hf))
  have hO9 := hO
  clear hO hf
  go_loopw [17] (fun v wr => ∃ (i : Nat), v = .int .i64 i ∧ i ≤ n ∧ Own S W wr ([Var s [.pointer (some ⟨p, 0, none⟩), .int .i64 (ep : Int), .int .i64 (si : Int), .int .i64 (sz : Int), .int .i64 (fi : Int), .pointer (some ⟨q, 0, none⟩), .map (some b)] 233, Var q [.pointer (some ⟨p, 0, none⟩), .int .i64 ((50 : Nat) : Int), .int .i64 (m : Int), .int .i64 (fi : Int), .int .i64 (u : Int)] 295, StM b R, DiskR p d, .imm φ] ++ L0)) (fun v _ => n - (intOf v).toNat)
  case atStart => exact ⟨0, rfl, by omega, (by (try simp only [CA]); exact hO9.cut sb_)⟩
  case round =>
    clear hO9
    obtain ⟨i, rfl, hi, hO⟩ := hrel
    rename World => w1
    simp only [List.cons_append, List.nil_append] at hO
    (replace hf := fa_ hO)
    by_cases hlt : i < n
    · have hi2 : i < C.length := by omega
      obtain ⟨b1, off, rfl⟩ := ChAt.some (a := a) ((hφ _ (Own.immOf (φ := φ) hO pk_)).2) (by omega)
      obtain ⟨c0, c1, c2⟩ := ChAt.at (w := w1) (l := C) (b := b1) (off := off) ((hφ _ (Own.immOf (φ := φ) hO pk_)).2) hi2
      have hcok := HOK.out _ (List.getElem_mem hi2)
      generalize C[i] = c at *
      have hks := key_size hcok.1
      have hvs := hcok.2.2
      have HB := fun w h => chCheck_any c w h (by omega) (by omega)
      rw [chN_ok hcok, show errV 0 = .nilIface from rfl] at HB
      unfold Ch.v at HB
      go_wp2_with (first | (go_at_call 149; (with_reducible apply Calls.mono (HB _ (hφ _ (Own.immOf (φ := φ) hO pk_)).1); refine cu_ ?_; clear hO; (try clear hf); intro w8 hO hf)) | (refine sq_ ?_; clear hO; (try clear hf); intro w9 hO hf))
      refine ⟨⟨i + 1, by go_num, by omega, ?_⟩, by simp [intOf]; omega⟩
      (try simp only [CA])
      exact hO.cut sb_
    · replace hO := ((hO.pick (r := .imm φ) pk_).again).imp (ψ := fun w => ValsAt w a (chs C)) fun w h => (hφ w h).2
      (replace hf := fa_ hO)
      have hroom2 : (u : Int) + n + 1 ≤ m := by omega
      go_wp2_with (first | (go_at_call 150; (with_reducible refine Does.use hO (HAP) tk_ (du_ ?_); clear hO; (try clear hf); intro x9 w9 hO hf; rename Nat => b2)) | ((with_reducible show wpList _ _ _ (Oper.mk _ (.call { callee := .builtin .len, args := #[.tmp 33], argTypes := _ }) _ _ _ _ :: _) _ _); (refine wpList_lenM hO pk_ rfl (.tmp 33) rfl Tryz.underlying229 rfl ?_)) | (go_at_call 143; (with_reducible refine Reads.use hO (HSC) tk_ (ru_ ?_); clear hO; (try clear hf); intro w9 hO hf)) | (go_at_call 151; (with_reducible refine Reads.use hO (HR) tk_ (ru_ ?_); clear hO; (try clear hf); intro w9 hO hf)) | (go_at_call 152; (with_reducible refine Does.use hO (HA) tk_ (du_ ?_); clear hO; (try clear hf); intro x9 w9 hO hf)) | (refine sq_ ?_; clear hO; (try clear hf); intro w9 hO hf))
      go_ret; refine ⟨(), rfl, ?_⟩; dsimp only; (try simp only [CA]); exact hO.cut sb_
set_option maxHeartbeats 4000000 in
set_option maxRecDepth 100000 in
theorem scommit_ck10 (s b p q m u ep si sz fi : Nat) (d d' : Dk) (R : List Rw) (a : Option Addr) (n cap : Nat) (C : List Ch) (hn : n ≤ 12) (hC : C.length = n) (hok : ∀ c ∈ C, ChOk c) (hD : DkOk (m + 50) 1000 d) (hm : m ≤ 150) (hu : u ≤ m) {φ : World → Prop} (hφ : ∀ w, φ w → LibOk w ∧ ValsAt w a (chs C)) (hb : (C.foldl appR R).length ≤ 40) (hmn : n + 1 ≤ m) (hroom : m < u + n + 1)
    (HCK : Does Tryz.prog 80 #[.pointer (some ⟨s, 0, none⟩)] [Var s [.pointer (some ⟨p, 0, none⟩), .int .i64 (ep : Int), .int .i64 (si : Int), .int .i64 (sz : Int), .int .i64 (fi : Int), .pointer (some ⟨q, 0, none⟩), .map (some b)] 233, Var q [.pointer (some ⟨p, 0, none⟩), .int .i64 ((50 : Nat) : Int), .int .i64 (m : Int), .int .i64 (fi : Int), .int .i64 (u : Int)] 295, StM b R, DiskR p d, .imm LibOk] (fun _ : Nat => (errV 10, [DiskR p d', .imm LibOk]))) :
    Does Tryz.prog 71 #[.pointer (some ⟨s, 0, none⟩), .slice a n cap] [Var s [.pointer (some ⟨p, 0, none⟩), .int .i64 (ep : Int), .int .i64 (si : Int), .int .i64 (sz : Int), .int .i64 (fi : Int), .pointer (some ⟨q, 0, none⟩), .map (some b)] 233, Var q [.pointer (some ⟨p, 0, none⟩), .int .i64 ((50 : Nat) : Int), .int .i64 (m : Int), .int .i64 (fi : Int), .int .i64 (u : Int)] 295, StM b R, DiskR p d, .imm φ] (fun _ : Unit => (errV 10, [DiskR p d', .imm φ])) := by
  rw [show errV 10 = .iface 124 (.int .i64 10) from rfl] at HCK ⊢
  have HOK := Lib.hid hok
  have HAP := sapply_does b R a n cap C hC (by omega)
  have HSC := sectors_reads p d
  rw [hD.now, show ((m + 50 : Nat) : Int) = (m : Int) + 50 from by omega] at HSC
  have HR := room_reads p q 50 m fi u (by omega) (by omega)
  have HRL := Lib.hid (rfl : (C.foldl appR R).length = (C.foldl appR R).length)
  generalize hR' : C.foldl appR R = R' at *
  clear HRL
  have HR' := Lib.hid hR'
  clear hok hR'
  intro S W w L0 hO
  simp only [CA] at hO
  (replace hf := fa_ hO)
  go_enter Tryz.func71, Tryz.ntmps71
  go_wp2_with (first | (refine sq_ ?_; clear hO; (try clear hf); intro w9 hO hf))
  have hO9 := hO
  clear hO hf
  go_loopw [17] (fun v wr => ∃ (i : Nat), v = .int .i64 i ∧ i ≤ n ∧ Own S W wr ([Var s [.pointer (some ⟨p, 0, none⟩), .int .i64 (ep : Int), .int .i64 (si : Int), .int .i64 (sz : Int), .int .i64 (fi : Int), .pointer (some ⟨q, 0, none⟩), .map (some b)] 233, Var q [.pointer (some ⟨p, 0, none⟩), .int .i64 ((50 : Nat) : Int), .int .i64 (m : Int), .int .i64 (fi : Int), .int .i64 (u : Int)] 295, StM b R, DiskR p d, .imm φ] ++ L0)) (fun v _ => n - (intOf v).toNat)
  case atStart => exact ⟨0, rfl, by omega, (by (try simp only [CA]); exact hO9.cut sb_)⟩
  case round =>
    clear hO9
    obtain ⟨i, rfl, hi, hO⟩ := hrel
    rename World => w1
    simp only [List.cons_append, List.nil_append] at hO
    (replace hf := fa_ hO)
    by_cases hlt : i < n
    · have hi2 : i < C.length := by omega
      obtain ⟨b1, off, rfl⟩ := ChAt.some (a := a) ((hφ _ (Own.immOf (φ := φ) hO pk_)).2) (by omega)
      obtain ⟨c0, c1, c2⟩ := ChAt.at (w := w1) (l := C) (b := b1) (off := off) ((hφ _ (Own.immOf (φ := φ) hO pk_)).2) hi2
      have hcok := HOK.out _ (List.getElem_mem hi2)
      generalize C[i] = c at *
      have hks := key_size hcok.1
      have hvs := hcok.2.2
      have HB := fun w h => chCheck_any c w h (by omega) (by omega)
      rw [chN_ok hcok, show errV 0 = .nilIface from rfl] at HB
      unfold Ch.v at HB
      go_wp2_with (first | (go_at_call 149; (with_reducible apply Calls.mono (HB _ (hφ _ (Own.immOf (φ := φ) hO pk_)).1); refine cu_ ?_; clear hO; (try clear hf); intro w8 hO hf)) | (refine sq_ ?_; clear hO; (try clear hf); intro w9 hO hf))
      refine ⟨⟨i + 1, by go_num, by omega, ?_⟩, by simp [intOf]; omega⟩
      (try simp only [CA])
      exact hO.cut sb_
    · replace hO := ((hO.pick (r := .imm φ) pk_).again).imp (ψ := fun w => ValsAt w a (chs C)) fun w h => (hφ w h).2
      (replace hf := fa_ hO)
      replace hO := ((hO.pick (r := .imm φ) pk_).again).imp (ψ := LibOk) fun w h => (hφ w h).1
      have hroom2 : (m : Int) < u + n + 1 := by omega
      go_wp2_with (first | (go_at_call 150; (with_reducible refine Does.use hO (HAP) tk_ (du_ ?_); clear hO; (try clear hf); intro x9 w9 hO hf; rename Nat => b2)) | ((with_reducible show wpList _ _ _ (Oper.mk _ (.call { callee := .builtin .len, args := #[.tmp 33], argTypes := _ }) _ _ _ _ :: _) _ _); (refine wpList_lenM hO pk_ rfl (.tmp 33) rfl Tryz.underlying229 rfl ?_)) | (go_at_call 143; (with_reducible refine Reads.use hO (HSC) tk_ (ru_ ?_); clear hO; (try clear hf); intro w9 hO hf)) | (go_at_call 151; (with_reducible refine Reads.use hO (HR) tk_ (ru_ ?_); clear hO; (try clear hf); intro w9 hO hf)) | (go_at_call 80; (with_reducible refine Does.use hO (HCK) tk_ (du_ ?_); clear hO; (try clear hf); intro x9 w9 hO hf)) | (refine sq_ ?_; clear hO; (try clear hf); intro w9 hO hf))
      go_ret; refine ⟨(), rfl, ?_⟩; dsimp only; (try simp only [CA]); exact hO.cut sb_
set_option maxHeartbeats 4000000 in
set_option maxRecDepth 100000 in
theorem scommit_ck0 (s b p q m u ep si sz fi xep xsi xsz xfi : Nat) (d d1 d' : Dk) (R : List Rw) (a : Option Addr) (n cap : Nat) (C : List Ch) (hn : n ≤ 12) (hC : C.length = n) (hok : ∀ c ∈ C, ChOk c) (hD : DkOk (m + 50) 1000 d) (hm : m ≤ 150) (hu : u ≤ m) {φ : World → Prop} (hφ : ∀ w, φ w → LibOk w ∧ ValsAt w a (chs C)) (hb : (C.foldl appR R).length ≤ 40) (hmn : n + 1 ≤ m) (hroom : m < u + n + 1)
    (HCK : Does Tryz.prog 80 #[.pointer (some ⟨s, 0, none⟩)] [Var s [.pointer (some ⟨p, 0, none⟩), .int .i64 (ep : Int), .int .i64 (si : Int), .int .i64 (sz : Int), .int .i64 (fi : Int), .pointer (some ⟨q, 0, none⟩), .map (some b)] 233, Var q [.pointer (some ⟨p, 0, none⟩), .int .i64 ((50 : Nat) : Int), .int .i64 (m : Int), .int .i64 (fi : Int), .int .i64 (u : Int)] 295, StM b R, DiskR p d, .imm LibOk] (fun q' : Nat => (errV 0, [Var s [.pointer (some ⟨p, 0, none⟩), .int .i64 (xep : Int), .int .i64 (xsi : Int), .int .i64 (xsz : Int), .int .i64 (xfi : Int), .pointer (some ⟨q', 0, none⟩), .map (some b)] 233, Var q' [.pointer (some ⟨p, 0, none⟩), .int .i64 ((50 : Nat) : Int), .int .i64 (m : Int), .int .i64 (xfi : Int), .int .i64 ((0 : Nat) : Int)] 295, StM b R, DiskR p d1, .imm LibOk])))
    (HA : ∀ q, Does Tryz.prog 152 #[.pointer (some ⟨q, 0, none⟩), .slice a n cap] [Var q [.pointer (some ⟨p, 0, none⟩), .int .i64 ((50 : Nat) : Int), .int .i64 (m : Int), .int .i64 (xfi : Int), .int .i64 ((0 : Nat) : Int)] 295, DiskR p d1, .imm φ] (fun _ : Unit => (errV 0, [Var q [.pointer (some ⟨p, 0, none⟩), .int .i64 ((50 : Nat) : Int), .int .i64 (m : Int), .int .i64 (xfi : Int), .int .i64 ((n + 1 : Nat) : Int)] 295, DiskR p d', .imm φ]))) :
    Does Tryz.prog 71 #[.pointer (some ⟨s, 0, none⟩), .slice a n cap] [Var s [.pointer (some ⟨p, 0, none⟩), .int .i64 (ep : Int), .int .i64 (si : Int), .int .i64 (sz : Int), .int .i64 (fi : Int), .pointer (some ⟨q, 0, none⟩), .map (some b)] 233, Var q [.pointer (some ⟨p, 0, none⟩), .int .i64 ((50 : Nat) : Int), .int .i64 (m : Int), .int .i64 (fi : Int), .int .i64 (u : Int)] 295, StM b R, DiskR p d, .imm φ] (fun x : Nat × Nat => (errV 0, [Var s [.pointer (some ⟨p, 0, none⟩), .int .i64 (xep : Int), .int .i64 (xsi : Int), .int .i64 (xsz : Int), .int .i64 (xfi : Int), .pointer (some ⟨x.1, 0, none⟩), .map (some x.2)] 233, Var x.1 [.pointer (some ⟨p, 0, none⟩), .int .i64 ((50 : Nat) : Int), .int .i64 (m : Int), .int .i64 (xfi : Int), .int .i64 ((n + 1 : Nat) : Int)] 295, StM x.2 (C.foldl appR R), DiskR p d', .imm φ])) := by
  rw [show errV 0 = .nilIface from rfl] at HCK HA ⊢
  have HOK := Lib.hid hok
  have HAP := sapply_does b R a n cap C hC (by omega)
  have HSC := sectors_reads p d
  rw [hD.now, show ((m + 50 : Nat) : Int) = (m : Int) + 50 from by omega] at HSC
  have HR := room_reads p q 50 m fi u (by omega) (by omega)
  have HRL := Lib.hid (rfl : (C.foldl appR R).length = (C.foldl appR R).length)
  generalize hR' : C.foldl appR R = R' at *
  clear HRL
  have HR' := Lib.hid hR'
  clear hok hR'
  intro S W w L0 hO
  simp only [CA] at hO
  (replace hf := fa_ hO)
  go_enter Tryz.func71, Tryz.ntmps71
  go_wp2_with (first | (refine sq_ ?_; clear hO; (try clear hf); intro w9 hO hf))
  have hO9 := hO
  clear hO hf
  go_loopw [17] (fun v wr => ∃ (i : Nat), v = .int .i64 i ∧ i ≤ n ∧ Own S W wr ([Var s [.pointer (some ⟨p, 0, none⟩), .int .i64 (ep : Int), .int .i64 (si : Int), .int .i64 (sz : Int), .int .i64 (fi : Int), .pointer (some ⟨q, 0, none⟩), .map (some b)] 233, Var q [.pointer (some ⟨p, 0, none⟩), .int .i64 ((50 : Nat) : Int), .int .i64 (m : Int), .int .i64 (fi : Int), .int .i64 (u : Int)] 295, StM b R, DiskR p d, .imm φ] ++ L0)) (fun v _ => n - (intOf v).toNat)
  case atStart => exact ⟨0, rfl, by omega, (by (try simp only [CA]); exact hO9.cut sb_)⟩
  case round =>
    clear hO9
    obtain ⟨i, rfl, hi, hO⟩ := hrel
    rename World => w1
    simp only [List.cons_append, List.nil_append] at hO
    (replace hf := fa_ hO)
    by_cases hlt : i < n
    · have hi2 : i < C.length := by omega
      obtain ⟨b1, off, rfl⟩ := ChAt.some (a := a) ((hφ _ (Own.immOf (φ := φ) hO pk_)).2) (by omega)
      obtain ⟨c0, c1, c2⟩ := ChAt.at (w := w1) (l := C) (b := b1) (off := off) ((hφ _ (Own.immOf (φ := φ) hO pk_)).2) hi2
      have hcok := HOK.out _ (List.getElem_mem hi2)
      generalize C[i] = c at *
      have hks := key_size hcok.1
      have hvs := hcok.2.2
      have HB := fun w h => chCheck_any c w h (by omega) (by omega)
      rw [chN_ok hcok, show errV 0 = .nilIface from rfl] at HB
      unfold Ch.v at HB
      go_wp2_with (first | (go_at_call 149; (with_reducible apply Calls.mono (HB _ (hφ _ (Own.immOf (φ := φ) hO pk_)).1); refine cu_ ?_; clear hO; (try clear hf); intro w8 hO hf)) | (refine sq_ ?_; clear hO; (try clear hf); intro w9 hO hf))
      refine ⟨⟨i + 1, by go_num, by omega, ?_⟩, by simp [intOf]; omega⟩
      (try simp only [CA])
      exact hO.cut sb_
    · replace hO := ((hO.pick (r := .imm φ) pk_).again).imp (ψ := fun w => ValsAt w a (chs C)) fun w h => (hφ w h).2
      (replace hf := fa_ hO)
      replace hO := ((hO.pick (r := .imm φ) pk_).again).imp (ψ := LibOk) fun w h => (hφ w h).1
      have hroom2 : (m : Int) < u + n + 1 := by omega
      go_wp2_with (first | (go_at_call 150; (with_reducible refine Does.use hO (HAP) tk_ (du_ ?_); clear hO; (try clear hf); intro x9 w9 hO hf; rename Nat => b2)) | ((with_reducible show wpList _ _ _ (Oper.mk _ (.call { callee := .builtin .len, args := #[.tmp 33], argTypes := _ }) _ _ _ _ :: _) _ _); (refine wpList_lenM hO pk_ rfl (.tmp 33) rfl Tryz.underlying229 rfl ?_)) | (go_at_call 143; (with_reducible refine Reads.use hO (HSC) tk_ (ru_ ?_); clear hO; (try clear hf); intro w9 hO hf)) | (go_at_call 151; (with_reducible refine Reads.use hO (HR) tk_ (ru_ ?_); clear hO; (try clear hf); intro w9 hO hf)) | (go_at_call 80; (with_reducible refine Does.use hO (HCK) tk_ (du_ ?_); clear hO; (try clear hf); intro x9 w9 hO hf; rename Nat => q2)) | (go_at_call 152; (with_reducible refine Does.use hO (HA _) tk_ (du_ ?_); clear hO; (try clear hf); intro x9 w9 hO hf)) | (refine sq_ ?_; clear hO; (try clear hf); intro w9 hO hf))
      go_ret; refine ⟨(q2, b2), rfl, ?_⟩; dsimp only; (try simp only [CA]); exact hO.cut sb_
set_option maxHeartbeats 4000000 in
set_option maxRecDepth 100000 in
theorem scommit_ckA (s b p q m u u' ep si sz fi xep xsi xsz xfi : Nat) (d d1 d' : Dk) (R : List Rw) (a : Option Addr) (n cap : Nat) (C : List Ch) (hn : n ≤ 12) (hC : C.length = n) (hok : ∀ c ∈ C, ChOk c) (hD : DkOk (m + 50) 1000 d) (hm : m ≤ 150) (hu : u ≤ m) {φ : World → Prop} (hφ : ∀ w, φ w → LibOk w ∧ ValsAt w a (chs C)) (hb : (C.foldl appR R).length ≤ 40) (hmn : n + 1 ≤ m) (hroom : m < u + n + 1)
    (HCK : Does Tryz.prog 80 #[.pointer (some ⟨s, 0, none⟩)] [Var s [.pointer (some ⟨p, 0, none⟩), .int .i64 (ep : Int), .int .i64 (si : Int), .int .i64 (sz : Int), .int .i64 (fi : Int), .pointer (some ⟨q, 0, none⟩), .map (some b)] 233, Var q [.pointer (some ⟨p, 0, none⟩), .int .i64 ((50 : Nat) : Int), .int .i64 (m : Int), .int .i64 (fi : Int), .int .i64 (u : Int)] 295, StM b R, DiskR p d, .imm LibOk] (fun q' : Nat => (errV 0, [Var s [.pointer (some ⟨p, 0, none⟩), .int .i64 (xep : Int), .int .i64 (xsi : Int), .int .i64 (xsz : Int), .int .i64 (xfi : Int), .pointer (some ⟨q', 0, none⟩), .map (some b)] 233, Var q' [.pointer (some ⟨p, 0, none⟩), .int .i64 ((50 : Nat) : Int), .int .i64 (m : Int), .int .i64 (xfi : Int), .int .i64 ((0 : Nat) : Int)] 295, StM b R, DiskR p d1, .imm LibOk])))
    (HA : ∀ q, Does Tryz.prog 152 #[.pointer (some ⟨q, 0, none⟩), .slice a n cap] [Var q [.pointer (some ⟨p, 0, none⟩), .int .i64 ((50 : Nat) : Int), .int .i64 (m : Int), .int .i64 (xfi : Int), .int .i64 ((0 : Nat) : Int)] 295, DiskR p d1, .imm φ] (fun _ : Unit => (errV 10, [Var q [.pointer (some ⟨p, 0, none⟩), .int .i64 ((50 : Nat) : Int), .int .i64 (m : Int), .int .i64 (xfi : Int), .int .i64 (u' : Int)] 295, DiskR p d', .imm φ]))) :
    Does Tryz.prog 71 #[.pointer (some ⟨s, 0, none⟩), .slice a n cap] [Var s [.pointer (some ⟨p, 0, none⟩), .int .i64 (ep : Int), .int .i64 (si : Int), .int .i64 (sz : Int), .int .i64 (fi : Int), .pointer (some ⟨q, 0, none⟩), .map (some b)] 233, Var q [.pointer (some ⟨p, 0, none⟩), .int .i64 ((50 : Nat) : Int), .int .i64 (m : Int), .int .i64 (fi : Int), .int .i64 (u : Int)] 295, StM b R, DiskR p d, .imm φ] (fun _ : Unit => (errV 10, [DiskR p d', .imm φ])) := by
  rw [show errV 0 = .nilIface from rfl] at HCK
  rw [show errV 10 = .iface 124 (.int .i64 10) from rfl] at HA ⊢
  have HOK := Lib.hid hok
  have HAP := sapply_does b R a n cap C hC (by omega)
  have HSC := sectors_reads p d
  rw [hD.now, show ((m + 50 : Nat) : Int) = (m : Int) + 50 from by omega] at HSC
  have HR := room_reads p q 50 m fi u (by omega) (by omega)
  have HRL := Lib.hid (rfl : (C.foldl appR R).length = (C.foldl appR R).length)
  generalize hR' : C.foldl appR R = R' at *
  clear HRL
  have HR' := Lib.hid hR'
  clear hok hR'
  intro S W w L0 hO
  simp only [CA] at hO
  (replace hf := fa_ hO)
  go_enter Tryz.func71, Tryz.ntmps71
  go_wp2_with (first | (refine sq_ ?_; clear hO; (try clear hf); intro w9 hO hf))
  have hO9 := hO
  clear hO hf
  go_loopw [17] (fun v wr => ∃ (i : Nat), v = .int .i64 i ∧ i ≤ n ∧ Own S W wr ([Var s [.pointer (some ⟨p, 0, none⟩), .int .i64 (ep : Int), .int .i64 (si : Int), .int .i64 (sz : Int), .int .i64 (fi : Int), .pointer (some ⟨q, 0, none⟩), .map (some b)] 233, Var q [.pointer (some ⟨p, 0, none⟩), .int .i64 ((50 : Nat) : Int), .int .i64 (m : Int), .int .i64 (fi : Int), .int .i64 (u : Int)] 295, StM b R, DiskR p d, .imm φ] ++ L0)) (fun v _ => n - (intOf v).toNat)
  case atStart => exact ⟨0, rfl, by omega, (by (try simp only [CA]); exact hO9.cut sb_)⟩
  case round =>
    clear hO9
    obtain ⟨i, rfl, hi, hO⟩ := hrel
    rename World => w1
    simp only [List.cons_append, List.nil_append] at hO
    (replace hf := fa_ hO)
    by_cases hlt : i < n
    · have hi2 : i < C.length := by omega
      obtain ⟨b1, off, rfl⟩ := ChAt.some (a := a) ((hφ _ (Own.immOf (φ := φ) hO pk_)).2) (by omega)
      obtain ⟨c0, c1, c2⟩ := ChAt.at (w := w1) (l := C) (b := b1) (off := off) ((hφ _ (Own.immOf (φ := φ) hO pk_)).2) hi2
      have hcok := HOK.out _ (List.getElem_mem hi2)
      generalize C[i] = c at *
      have hks := key_size hcok.1
      have hvs := hcok.2.2
      have HB := fun w h => chCheck_any c w h (by omega) (by omega)
      rw [chN_ok hcok, show errV 0 = .nilIface from rfl] at HB
      unfold Ch.v at HB
      go_wp2_with (first | (go_at_call 149; (with_reducible apply Calls.mono (HB _ (hφ _ (Own.immOf (φ := φ) hO pk_)).1); refine cu_ ?_; clear hO; (try clear hf); intro w8 hO hf)) | (refine sq_ ?_; clear hO; (try clear hf); intro w9 hO hf))
      refine ⟨⟨i + 1, by go_num, by omega, ?_⟩, by simp [intOf]; omega⟩
      (try simp only [CA])
      exact hO.cut sb_
    · replace hO := ((hO.pick (r := .imm φ) pk_).again).imp (ψ := fun w => ValsAt w a (chs C)) fun w h => (hφ w h).2
      (replace hf := fa_ hO)
      replace hO := ((hO.pick (r := .imm φ) pk_).again).imp (ψ := LibOk) fun w h => (hφ w h).1
      have hroom2 : (m : Int) < u + n + 1 := by omega
      go_wp2_with (first | (go_at_call 150; (with_reducible refine Does.use hO (HAP) tk_ (du_ ?_); clear hO; (try clear hf); intro x9 w9 hO hf; rename Nat => b2)) | ((with_reducible show wpList _ _ _ (Oper.mk _ (.call { callee := .builtin .len, args := #[.tmp 33], argTypes := _ }) _ _ _ _ :: _) _ _); (refine wpList_lenM hO pk_ rfl (.tmp 33) rfl Tryz.underlying229 rfl ?_)) | (go_at_call 143; (with_reducible refine Reads.use hO (HSC) tk_ (ru_ ?_); clear hO; (try clear hf); intro w9 hO hf)) | (go_at_call 151; (with_reducible refine Reads.use hO (HR) tk_ (ru_ ?_); clear hO; (try clear hf); intro w9 hO hf)) | (go_at_call 80; (with_reducible refine Does.use hO (HCK) tk_ (du_ ?_); clear hO; (try clear hf); intro x9 w9 hO hf; rename Nat => q2)) | (go_at_call 152; (with_reducible refine Does.use hO (HA _) tk_ (du_ ?_); clear hO; (try clear hf); intro x9 w9 hO hf)) | (refine sq_ ?_; clear hO; (try clear hf); intro w9 hO hf))
      go_ret; refine ⟨(), rfl, ?_⟩; dsimp only; (try simp only [CA]); exact hO.cut sb_
end Go.Proofs.YtagcmjmcjpjihaaGreatDoor
namespace Go.Proofs.YtagcmjmcjpjihaaGreatDoor
open Go.RowKit Go.Lib
theorem Does.re {α β : Type} {P : Program} {f : FuncId} {args : Array Value} {L : List Rs} {R : α → Value × List Rs} {R' : β → Value × List Rs} (h : Does P f args L R) (g : ∀ x, ∃ y, R' y = R x) : Does P f args L R' := fun S W w L0 hO =>
  (h S W w L0 hO).mono fun e w' ⟨x, he, ho⟩ => by
    obtain ⟨y, hy⟩ := g x
    exact ⟨y, by rw [hy]; exact he, by rw [hy]; exact ho⟩
theorem StOn.mono {k : Nat} {d : Dk} {n n' : Nat} {R : List Rw} (h : StOn k d n R) (hn : n ≤ n') : StOn k d n' R := by
  obtain ⟨h0, R0, W, u, h1, h2, h3, h4⟩ := h
  exact ⟨h0, R0, W, u, h1, h2, by omega, h4⟩
theorem rowsW_nil (R : List Rw) : rowsW R [] = R := rfl
theorem commitN_many {R : List Rw} {C : List Ch} {m : Nat} (h : 12 < C.length) : commitN R C m = 2 := if_pos h
theorem commitN_fault {R : List Rw} {C : List Ch} {m : Nat} (h : ¬ 12 < C.length) (h2 : faultN C ≠ 0) : commitN R C m = faultN C := by unfold commitN; rw [if_neg h, if_pos h2]
theorem commitN_full {R : List Rw} {C : List Ch} {m : Nat} (h : ¬ 12 < C.length) (h2 : faultN C = 0) (h3 : 40 < (C.foldl appR R).length ∨ m < C.length + 1) : commitN R C m = 8 := by
  unfold commitN; rw [if_neg h, if_neg (by omega)]; split
  · rfl
  · rw [if_pos (by omega)]
theorem commitN_ok {R : List Rw} {C : List Ch} {m : Nat} (h : ¬ 12 < C.length) (h2 : faultN C = 0) (h3 : ¬ (40 < (C.foldl appR R).length ∨ m < C.length + 1)) : commitN R C m = 0 := by
  unfold commitN; rw [if_neg h, if_neg (by omega), if_neg (by omega), if_neg (by omega)]
set_option maxHeartbeats 1000000 in
theorem scommit_gen (s b p q m u : Nat) (d : Dk) (h : Hd) (R0 : List Rw) (W0 : List (List Ch)) (U : StUp (m + 50) d h R0 W0 u) (he : h.ep + 1 ≤ 5000) (a : Option Addr) (n cap : Nat) (C : List Ch) (hC : C.length = n) (hn : n ≤ 100000)
    (hsz : ∀ c ∈ C, c.key.size ≤ 300 ∧ c.val.size ≤ 1000) {φ : World → Prop} (hφ : ∀ w, φ w → LibOk w ∧ ValsAt w a (chs C)) :
    ∃ (c : Nat) (d' : Dk) (h' : Hd) (T : Nat × Nat → List Rs),
      ((c ≠ 0 ∧ c ≤ 8 ∧ c = commitN (rowsW R0 W0) C m ∧ T = fun _ => stT s p m h (rowsW R0 W0) u d q b ++ [.imm φ]) ∨
       (c = 0 ∧ commitN (rowsW R0 W0) C m = 0 ∧ (∃ R1 W1, StUp (m + 50) d' h' R1 W1 (usedC u n m) ∧ rowsW R1 W1 = C.foldl appR (rowsW R0 W0)) ∧ h'.ep ≤ h.ep + 1 ∧ (d.fuse = -1 → d'.fuse = -1) ∧
          T = fun x => stT s p m h' (C.foldl appR (rowsW R0 W0)) (usedC u n m) d' x.1 x.2 ++ [.imm φ]) ∨
       (c = 10 ∧ commitN (rowsW R0 W0) C m = 0 ∧ d.fuse ≠ -1 ∧ DkOk (m + 50) 2000 d' ∧ (∀ K : Int, StOn (m + 50) (d'.restart K) (h.ep + 1) (rowsW R0 W0) ∨ StOn (m + 50) (d'.restart K) (h.ep + 1) (C.foldl appR (rowsW R0 W0))) ∧ T = fun _ => [DiskR p d', .imm φ])) ∧
      Does Tryz.prog 71 #[.pointer (some ⟨s, 0, none⟩), .slice a n cap] (stT s p m h (rowsW R0 W0) u d q b ++ [.imm φ]) (fun x : Nat × Nat => (errV c, T x)) := by
  obtain ⟨g1, g2, g3, g4, g5, g6, g7, g8, g9⟩ := U.facts
  have hfi := g7 he
  have hk : m + 50 - 50 = m := by omega
  by_cases h12 : 12 < n
  · exact ⟨2, d, h, _, .inl ⟨by omega, by omega, (commitN_many (by omega)).symm, rfl⟩, (scommit_many s b p q m u h.ep h.si h.sz h.fi d (rowsW R0 W0) a n cap h12 hn).re fun x => ⟨(0, 0), rfl⟩⟩
  · by_cases hf : faultN C = 0
    · have hok := faultN_zero.1 hf
      by_cases hfull : 40 < (C.foldl appR (rowsW R0 W0)).length ∨ m < C.length + 1
      · exact ⟨8, d, h, _, .inl ⟨by omega, by omega, (commitN_full (by omega) hf hfull).symm, rfl⟩, (scommit_full s b p q m u h.ep h.si h.sz h.fi d (rowsW R0 W0) a n cap C (by omega) hC hok U.ok g2 g3 hφ (by rw [← hC]; exact hfull)).re fun x => ⟨(0, 0), rfl⟩⟩
      · have hc0 := commitN_ok (by omega) hf hfull
        have h40 : (C.foldl appR (rowsW R0 W0)).length ≤ 40 := by omega
        by_cases hroom : u + n + 1 ≤ m
        · have hus : usedC u n m = u + C.length + 1 := by unfold usedC; rw [if_neg (by omega), hC]
          have HA := add_does p q d (m + 50) 1000 50 m h.fi u a n cap C U.ok (by omega) hC (by omega) hok (by omega) (by omega) (by omega) (by omega) hφ
          have hA := U.add hok (by rw [hk]; omega) h40
          rw [hk] at hA
          rcases hA with ⟨d', e, U', hfu⟩ | ⟨hne, d', e, hd, hon⟩
          · rw [e, show usedA (0, d').1 u n = u + n + 1 from rfl] at HA
            refine ⟨0, d', h, _, .inr (.inl ⟨rfl, hc0, ⟨R0, W0 ++ [C], by rw [hus]; exact U', rowsW_add ..⟩, by omega, hfu, rfl⟩), (scommit_add0 s b p q m u h.ep h.si h.sz h.fi d d' (rowsW R0 W0) a n cap C (by omega) hC hok U.ok g2 g3 hφ h40 hroom HA).re fun x => ⟨(q, x), ?_⟩⟩
            rw [hus, hC]
            rfl
          · rw [e] at HA
            exact ⟨10, d', h, _, .inr (.inr ⟨rfl, hc0, hne, hd, fun K => (hon K).imp (fun x => x.mono (by omega)) fun x => x.mono (by omega), rfl⟩), (scommit_add10 s b p q m u _ h.ep h.si h.sz h.fi d d' (rowsW R0 W0) a n cap C (by omega) hC hok U.ok g2 g3 hφ h40 hroom HA).re fun x => ⟨(0, 0), rfl⟩⟩
        · have hus : usedC u n m = 0 + C.length + 1 := by unfold usedC; rw [if_pos (by omega), hC, Nat.zero_add]
          obtain ⟨c1, d1, hw, HCK⟩ := ckpt_gen s b p q m u d h R0 W0 U he
          rcases hw with ⟨rfl, U1, hfu1⟩ | ⟨rfl, hne, hd, hon⟩
          · have hfi2 : (ckH (m + 50) h (rowsW R0 W0)).fi = h.fi + m := by unfold ckH; dsimp only; rw [hk]
            have hep2 : (ckH (m + 50) h (rowsW R0 W0)).ep = h.ep + 1 := rfl
            have HCK2 := fun q' => (ckT s p m b (ckH (m + 50) h (rowsW R0 W0)) (rowsW R0 W0) 0 d1 q')
            generalize ckH (m + 50) h (rowsW R0 W0) = H1 at *
            have HA := fun q => add_does p q d1 (m + 50) 1000 50 m H1.fi 0 a n cap C U1.ok (by omega) hC (by omega) hok (by omega) (by omega) (by omega) (by omega) hφ
            have hA := U1.add hok (by rw [hk]; omega) h40
            rw [hk, rowsW_nil] at hA
            rcases hA with ⟨d', e, U', hfu⟩ | ⟨hne, d', e, hd, hon⟩
            · rw [e, show usedA (0, d').1 0 n = n + 1 from by show 0 + n + 1 = n + 1; omega] at HA
              refine ⟨0, d', H1, _, .inr (.inl ⟨rfl, hc0, ⟨rowsW R0 W0, [] ++ [C], by rw [hus]; exact U', rowsW_add ..⟩, by omega, fun x => hfu (hfu1 x), rfl⟩), (scommit_ck0 s b p q m u h.ep h.si h.sz h.fi H1.ep H1.si H1.sz H1.fi d d1 d' (rowsW R0 W0) a n cap C (by omega) hC hok U.ok g2 g3 hφ h40 (by omega) (by omega) HCK HA).re fun x => ⟨x, ?_⟩⟩
              rw [hus, hC, Nat.zero_add]
              rfl
            · rw [e] at HA
              exact ⟨10, d', h, _, .inr (.inr ⟨rfl, hc0, fun x => hne (hfu1 x), hd, fun K => (hon K).imp (fun x => x.mono (by omega)) fun x => x.mono (by omega), rfl⟩), (scommit_ckA s b p q m u _ h.ep h.si h.sz h.fi H1.ep H1.si H1.sz H1.fi d d1 d' (rowsW R0 W0) a n cap C (by omega) hC hok U.ok g2 g3 hφ h40 (by omega) (by omega) HCK HA).re fun x => ⟨(0, 0), rfl⟩⟩
          · exact ⟨10, d1, h, _, .inr (.inr ⟨rfl, hc0, hne, hd, fun K => .inl (hon K), rfl⟩), (scommit_ck10 s b p q m u h.ep h.si h.sz h.fi d d1 (rowsW R0 W0) a n cap C (by omega) hC hok U.ok g2 g3 hφ h40 (by omega) (by omega) HCK).re fun x => ⟨(0, 0), rfl⟩⟩
    · have hle := faultN_le C
      exact ⟨faultN C, d, h, _, .inl ⟨hf, by omega, (commitN_fault (by omega) hf).symm, rfl⟩, (scommit_fault s b p q m u h.ep h.si h.sz h.fi d (rowsW R0 W0) a n cap C (by omega) hC hsz _ rfl hf hφ).re fun x => ⟨(0, 0), rfl⟩⟩
end Go.Proofs.YtagcmjmcjpjihaaGreatDoor
namespace Go.Proofs.YtagcmjmcjpjihaaGreatDoor
open Go.RowKit Go.Lib
end Go.Proofs.YtagcmjmcjpjihaaGreatDoor
namespace Go.Proofs.YtagcmjmcjpjihaaGreatDoor
open Go.RowKit Go.Lib
def newD (k : Nat) : Dk := ⟨newB k, newB k, [], -1, false⟩
def newH : Hd := ⟨1, 0, 0, 1⟩
theorem StUp.new {k : Nat} (k1 : 54 ≤ k) (k2 : k ≤ 200) : StUp k (newD k) newH [] [] 0 := by
  obtain ⟨h1, h2⟩ := StB.new k1 k2
  exact ⟨h1, ⟨rfl, rfl, rfl⟩, ⟨h1.len, h1.len, by show (-1 : Int) ≤ -1; omega, by show (-1 : Int) ≤ _; omega, Nat.zero_le _, fun t ht => (List.not_mem_nil ht).elim⟩, .inl h2⟩
theorem open_gen (p m : Nat) (d : Dk) (h : Hd) (R0 : List Rw) (W0 : List (List Ch)) (u : Nat) (U : StUp (m + 50) d h R0 W0 u) :
    Does Tryz.prog 81 #[.pointer (some ⟨p, 0, none⟩)] [DiskR p d, .imm LibOk]
      (fun x : Nat × Nat × Nat => (.tuple #[.pointer (some ⟨x.1, 0, none⟩), .nilIface], stT x.1 p m h (rowsW R0 W0) u d x.2.1 x.2.2 ++ [.imm LibOk])) := sopen_does p m d h R0 W0 u U.calm.up U.st
theorem first_len : ([cAx].foldl appR []).length = 1 := rfl
end Go.Proofs.YtagcmjmcjpjihaaGreatDoor
namespace Go.Proofs.YtagcmjmcjpjihaaGreatDoor
open Go.RowKit Go.Lib
/-- What the law is handed. -/
def StArg (aa : Option Addr) (l : List Ac) (w : World) : Prop := LibOk w ∧ ActsAt w aa l
theorem StArg.base {aa : Option Addr} {l : List Ac} {w : World} (h : StArg aa l w) : Own (fun _ => False) w w [.imm (StArg aa l)] :=
  Own.base w _ fun w' hw' => ⟨h.1.up hw', h.2.up (agree_up hw')⟩
end Go.Proofs.YtagcmjmcjpjihaaGreatDoor
namespace Go.Proofs.YtagcmjmcjpjihaaGreatDoor
open Go.RowKit Go.Lib
/-- What the law is handed. -/
def TsArg (da : Option Addr) (D : List DV) (sa : Option Addr) (sv : List Bool) (w : World) : Prop := LibOk w ∧ DIn w da D ∧ ValsAt w sa (sv.map .bool)
theorem TsArg.base {da : Option Addr} {D : List DV} {sa : Option Addr} {sv : List Bool} {w : World} (h : TsArg da D sa sv w) : Own (fun _ => False) w w [.imm (TsArg da D sa sv)] :=
  Own.base w _ fun w' hw' => ⟨h.1.up hw', h.2.1.up hw', vals_up h.2.2 hw'⟩
end Go.Proofs.YtagcmjmcjpjihaaGreatDoor
