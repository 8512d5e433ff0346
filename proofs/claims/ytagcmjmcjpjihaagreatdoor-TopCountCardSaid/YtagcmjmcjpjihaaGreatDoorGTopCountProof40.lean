/- Texts Q7, Q8, Q9, Q12, Q13, Recv, Q20, En1, EnC, Q14, Q19, Q21, TurnL, Cnt of this claim, laid together. -/
import Derived.Test.YtagcmjmcjpjihaaGreatDoorGTopCountProof39
import Derived.Laws.RangeString
import Derived.Test.YtagcmjmcjpjihaaGreatDoorGTopCountProof26
import Derived.Test.YtagcmjmcjpjihaaGreatDoorGTopCountProof37
import Derived.Test.YtagcmjmcjpjihaaGreatDoorGTopCountProof15
set_option linter.unusedVariables false
set_option linter.unusedSimpArgs false
namespace Go.Proofs.YtagcmjmcjpjihaaGreatDoor
open Go.RowKit
@[go_sem] theorem run_neq_err (a b : Int) (w : World) : (binOp .neq 42 (.iface 124 (.int .i64 a)) (.iface 124 (.int .i64 b))).run Tryz.prog w = .ok (.bool (!(a == b))) w := by kernel_rfl
theorem getB_len {C : List Ch} {R : List Sp} {k : ByteArray} (h : R.length ≤ 40) : (getB C R k).length ≤ 40 := by
  unfold getB
  split
  · exact h
  · split
    · exact h
    · exact noteR_len _ h
theorem findR_len {C : List Ch} {R : List Sp} {k : ByteArray} (h : R.length ≤ 40) : (findR C R k).length ≤ 40 := by
  unfold findR
  split
  · exact h
  · exact getB_len h
end Go.Proofs.YtagcmjmcjpjihaaGreatDoor
namespace Go.Proofs.YtagcmjmcjpjihaaGreatDoor
open Go.RowKit
noncomputable def setN (C : List Ch) (name : ByteArray) (m : Ms) : Nat := if m.txt.2 ≠ 0 then m.txt.2 else putN C ⟨msgB name m.num.toNat, m.txt.1, false⟩
noncomputable def setL (C : List Ch) (name : ByteArray) (m : Ms) : List Ch := if m.txt.2 ≠ 0 then C else putL C ⟨msgB name m.num.toNat, m.txt.1, false⟩
/-- A message that one has: what it is, or what is wrong. -/
noncomputable def mineA (B : ByteArray → ByteArray × Bool) (C : List Ch) (R : List Sp) (name : ByteArray) (n tries : Int) : Ms × Nat :=
  if (findN (B (queB name)) C R name).2 ≠ 0 then (Ms.z, (findN (B (queB name)) C R name).2) else if n < 0 ∨ 999999 < n ∨ tries < 1 then (Ms.z, 1)
  else if (getG (B (msgB name n.toNat)) C (findR C R name) (msgB name n.toNat)).2.2 ≠ 0 then (Ms.z, (getG (B (msgB name n.toNat)) C (findR C R name) (msgB name n.toNat)).2.2)
  else if (getG (B (msgB name n.toNat)) C (findR C R name) (msgB name n.toNat)).2.1 = false then (Ms.z, 11)
  else if (msOf n (getG (B (msgB name n.toNat)) C (findR C R name) (msgB name n.toNat)).1).2 ≠ 0 then (Ms.z, (msOf n (getG (B (msgB name n.toNat)) C (findR C R name) (msgB name n.toNat)).1).2)
  else if (msOf n (getG (B (msgB name n.toNat)) C (findR C R name) (msgB name n.toNat)).1).1.tries ≠ tries then (Ms.z, 11)
  else ((msOf n (getG (B (msgB name n.toNat)) C (findR C R name) (msgB name n.toNat)).1).1, 0)
noncomputable def mineR (B : ByteArray → ByteArray × Bool) (C : List Ch) (R : List Sp) (name : ByteArray) (n tries : Int) : List Sp :=
  if (findN (B (queB name)) C R name).2 ≠ 0 ∨ n < 0 ∨ 999999 < n ∨ tries < 1 then findR C R name else getB C (findR C R name) (msgB name n.toNat)
end Go.Proofs.YtagcmjmcjpjihaaGreatDoor
namespace Go.Proofs.YtagcmjmcjpjihaaGreatDoor
open Go.RowKit
def Ms.till (m : Ms) (t : Int) : Ms := ⟨m.num, m.tries, t, m.body⟩
noncomputable def waitA (B : ByteArray → ByteArray × Bool) (C : List Ch) (R : List Sp) (name : ByteArray) (n tries til : Int) : Nat × List Ch :=
  if (mineA B C R name n tries).2 ≠ 0 then ((mineA B C R name n tries).2, C) else if timeN [til] ≠ 0 then (1, C)
  else (setN C name ((mineA B C R name n tries).1.till til), setL C name ((mineA B C R name n tries).1.till til))
end Go.Proofs.YtagcmjmcjpjihaaGreatDoor
namespace Go.Proofs.YtagcmjmcjpjihaaGreatDoor
open Go.RowKit
end Go.Proofs.YtagcmjmcjpjihaaGreatDoor
namespace Go.Proofs.YtagcmjmcjpjihaaGreatDoor
open Go.RowKit
end Go.Proofs.YtagcmjmcjpjihaaGreatDoor
namespace Go.Proofs.YtagcmjmcjpjihaaGreatDoor
open Go.RowKit
theorem chN_good {c : Ch} (h : chN c = 0) : KeyOk c.key ∧ c.val.size ≤ 40 := by
  unfold chN at h
  split at h
  · rename_i h1
    refine ⟨h1, ?_⟩
    split at h
    · cases h
    · split at h
      · cases h
      · omega
  · cases h
/-- What is known of changes and reads between two acts. -/
structure QInv (C : List Ch) (R : List Sp) : Prop where
  ups : Ups C
  c12 : C.length ≤ 12
  r40 : R.length ≤ 40
  good : ∀ c ∈ C, chN c = 0
/-- What is known of rows. -/
structure QRows (rows : List Rw) : Prop where
  ups : RUps rows
  ok : ∀ r ∈ rows, KeyOk r.key ∧ r.val.size ≤ 40
  len : rows.length ≤ 1000
theorem KeyOk.size_le {k : ByteArray} (h : KeyOk k) : k.size ≤ 60 := by
  rcases h with ⟨a, ha, rfl | rfl⟩ | ⟨q, n, hq, hn, rfl⟩
  · have := ha.2.1
    show (tabB a).size ≤ 60
    have e : (tabB a).size = 2 + a.size := by
      unfold tabB
      rw [ByteArray.size_append, ByteArray.size_append]
      rfl
    omega
  · have := ha.2.1
    show (queB a).size ≤ 60
    rw [queB_size]; omega
  · have := hq.2.1
    show (msgB q n).size ≤ 60
    rw [msgB_size]; omega
theorem QInv.val {C : List Ch} {R : List Sp} (h : QInv C R) : ∀ c ∈ C, c.val.size ≤ 100 := fun c hc => by have := (chN_good (h.good c hc)).2; omega
theorem QInv.put {C : List Ch} {R : List Sp} (h : QInv C R) (c : Ch) : QInv (putL C c) R := by
  have hk := putL_keep c h.ups h.c12
  refine ⟨hk.1, hk.2, h.r40, fun x hx => ?_⟩
  unfold putL at hx
  split at hx
  · rename_i h1
    rcases mem_put hx with rfl | hx
    · unfold putN at h1
      split at h1
      · rename_i h2; exact absurd h1 h2
      · rename_i h2; exact Classical.not_not.1 h2
    · exact h.good x hx
  · exact h.good x hx
theorem QInv.reads {C : List Ch} {R R' : List Sp} (h : QInv C R) (hR : R'.length ≤ 40) : QInv C R' := ⟨h.ups, h.c12, hR, h.good⟩
theorem QInv.set {C : List Ch} {R : List Sp} (h : QInv C R) (name : ByteArray) (m : Ms) : QInv (setL C name m) R := by
  unfold setL
  split
  · exact h
  · exact h.put _
theorem QInv.find {C : List Ch} {R : List Sp} (h : QInv C R) (name : ByteArray) : QInv C (findR C R name) := h.reads (findR_len h.r40)
theorem QInv.scan {C : List Ch} {R : List Sp} (h : QInv C R) (L : List Rw) (lo hi : ByteArray) (most : Int) : QInv C (scnB L R lo hi most) := by
  refine h.reads ?_
  unfold scnB
  split
  · exact h.r40
  · exact noteR_len _ h.r40
theorem has_span {a k : ByteArray} : hasB (loB a) (hiB a) k = true ↔ ∃ r, k.data.toList = 109 :: 47 :: (a.data.toList ++ 47 :: r) := has_msgs a k
theorem msg_lo {name : ByteArray} (hn : NameOk name) (n : Nat) : slt (msgB name n) (loB name) = false := by
  have h := has_span.2 ((has_msg hn hn n).2 rfl)
  unfold hasB at h
  simp only [Bool.and_eq_true, Bool.not_eq_true'] at h
  exact h.1
theorem lo_msg {name : ByteArray} (hn : NameOk name) (n : Nat) : slt (loB name) (msgB name n ++ nul) = true := slt_of_not_of_slt (msg_lo hn n) (slt_nul _)
/-- Where a look begins: at the span's beginning, or behind a message's row. -/
def LoOk (name : ByteArray) (k : Nat) (lo : ByteArray) : Prop := (k = 0 ∧ lo = loB name) ∨ ∃ n, n < 1000000 ∧ k = n + 1 ∧ lo = msgB name n ++ nul
theorem LoOk.le {name lo : ByteArray} {k : Nat} (hn : NameOk name) (h : LoOk name k lo) : slt lo (loB name) = false := by
  rcases h with ⟨_, rfl⟩ | ⟨n, _, _, rfl⟩
  · exact slt_irrefl _
  · exact slt_asymm (lo_msg hn n)
theorem LoOk.num {name lo hi : ByteArray} {k m : Nat} (h : LoOk name k lo) (hm : m < 1000000) (hh : hasB lo hi (msgB name m) = true) : k ≤ m := by
  rcases h with ⟨rfl, _⟩ | ⟨n, hn, rfl, rfl⟩
  · exact Nat.zero_le _
  · unfold hasB at hh
    simp only [Bool.and_eq_true, Bool.not_eq_true'] at hh
    have h1 := hh.1
    rw [slt_nul_iff, slt_msg name n m hn hm] at h1
    simp only [Bool.not_eq_false', decide_eq_true_eq] at h1
    omega
def Ms.more (m : Ms) (t : Int) : Ms := ⟨m.num, m.tries + 1, t, m.body⟩
/-- What is received: from a place on. -/
inductive Recv (rows : List Rw) (name : ByteArray) (u : Qu) (now long : Int) : List Ch → List Sp → ByteArray → Ms × Nat × List Ch × List Sp → Prop
  | bad {C R lo res L} (hL : inR lo (hiB name) (C.foldl appR rows) = L) (h1 : scnN L R lo (hiB name) 1 ≠ 0) (e : res = (Ms.z, scnN L R lo (hiB name) 1, C, scnB L R lo (hiB name) 1)) : Recv rows name u now long C R lo res
  | empty {C R lo res} (hL : inR lo (hiB name) (C.foldl appR rows) = []) (h1 : scnN [] R lo (hiB name) 1 = 0) (e : res = (Ms.z, 12, C, scnB [] R lo (hiB name) 1)) : Recv rows name u now long C R lo res
  | text {C R lo res n v t} (hL : inR lo (hiB name) (C.foldl appR rows) = ⟨msgB name n, v⟩ :: t) (h1 : scnN (⟨msgB name n, v⟩ :: t) R lo (hiB name) 1 = 0) (hn : n < 1000000) (hv : v.size ≤ 40)
      (h2 : (msOf n v).2 ≠ 0) (e : res = (Ms.z, (msOf n v).2, C, scnB (⟨msgB name n, v⟩ :: t) R lo (hiB name) 1)) : Recv rows name u now long C R lo res
  | skip {C R lo res n v t} (hL : inR lo (hiB name) (C.foldl appR rows) = ⟨msgB name n, v⟩ :: t) (h1 : scnN (⟨msgB name n, v⟩ :: t) R lo (hiB name) 1 = 0) (hn : n < 1000000) (hv : v.size ≤ 40)
      (h2 : (msOf n v).2 = 0) (h3 : now < (msOf n v).1.until_) (h : Recv rows name u now long C (scnB (⟨msgB name n, v⟩ :: t) R lo (hiB name) 1) (msgB name n ++ nul) res) : Recv rows name u now long C R lo res
  | lost {C R lo res n v t} (hL : inR lo (hiB name) (C.foldl appR rows) = ⟨msgB name n, v⟩ :: t) (h1 : scnN (⟨msgB name n, v⟩ :: t) R lo (hiB name) 1 = 0) (hn : n < 1000000) (hv : v.size ≤ 40)
      (h2 : (msOf n v).2 = 0) (h3 : ¬ now < (msOf n v).1.until_) (h4 : u.tries ≤ (msOf n v).1.tries) (h5 : (buryA (valR rows) C (scnB (⟨msgB name n, v⟩ :: t) R lo (hiB name) 1) name u (msOf n v).1).1 ≠ 0)
      (e : res = (Ms.z, buryA (valR rows) C (scnB (⟨msgB name n, v⟩ :: t) R lo (hiB name) 1) name u (msOf n v).1)) : Recv rows name u now long C R lo res
  | bury {C R lo res n v t} (hL : inR lo (hiB name) (C.foldl appR rows) = ⟨msgB name n, v⟩ :: t) (h1 : scnN (⟨msgB name n, v⟩ :: t) R lo (hiB name) 1 = 0) (hn : n < 1000000) (hv : v.size ≤ 40)
      (h2 : (msOf n v).2 = 0) (h3 : ¬ now < (msOf n v).1.until_) (h4 : u.tries ≤ (msOf n v).1.tries) (h5 : (buryA (valR rows) C (scnB (⟨msgB name n, v⟩ :: t) R lo (hiB name) 1) name u (msOf n v).1).1 = 0)
      (h : Recv rows name u now long (buryA (valR rows) C (scnB (⟨msgB name n, v⟩ :: t) R lo (hiB name) 1) name u (msOf n v).1).2.1 (buryA (valR rows) C (scnB (⟨msgB name n, v⟩ :: t) R lo (hiB name) 1) name u (msOf n v).1).2.2 (msgB name n ++ nul) res) : Recv rows name u now long C R lo res
  | take {C R lo res n v t} (hL : inR lo (hiB name) (C.foldl appR rows) = ⟨msgB name n, v⟩ :: t) (h1 : scnN (⟨msgB name n, v⟩ :: t) R lo (hiB name) 1 = 0) (hn : n < 1000000) (hv : v.size ≤ 40)
      (h2 : (msOf n v).2 = 0) (h3 : ¬ now < (msOf n v).1.until_) (h4 : ¬ u.tries ≤ (msOf n v).1.tries)
      (e : res = ((msOf n v).1.more (now + long), setN C name ((msOf n v).1.more (now + long)), setL C name ((msOf n v).1.more (now + long)), scnB (⟨msgB name n, v⟩ :: t) R lo (hiB name) 1)) : Recv rows name u now long C R lo res
end Go.Proofs.YtagcmjmcjpjihaaGreatDoor
namespace Go.Proofs.YtagcmjmcjpjihaaGreatDoor
open Go.RowKit
/-- Rows of a queue's messages. -/
def MsgRows (name : ByteArray) (L : List Rw) : Prop := ∀ r ∈ L, ∃ n, n < 1000000 ∧ r.key = msgB name n ∧ r.val.size ≤ 40
theorem MsgRows.take {name : ByteArray} {L : List Rw} (h : MsgRows name L) (k : Nat) : MsgRows name (L.take k) := fun r hr => h r (List.mem_of_mem_take hr)
/-- What is seen, at a deed, of versions. -/
structure Seen (V : List (ByteArray × List Vn)) (since : Nat) (rows : List Rw) : Prop where
  rd : ∀ k, readV V k since = valR rows k
  sc : ∀ f, scanV V f since = rows.filter fun r => f r.key
  nd : (V.map (·.1)).Nodup
  vl : V.length ≤ 50000
  v1 : ∀ e ∈ V, e.2.length ≤ 100000
  qr : QRows rows
theorem Seen.scan {V : List (ByteArray × List Vn)} {since : Nat} {rows : List Rw} (h : Seen V since rows) (C : List Ch) (lo hi : ByteArray) : (inC lo hi C).foldl appR (scanV V (hasB lo hi) since) = inR lo hi (C.foldl appR rows) := by
  rw [inR_apps lo hi C h.qr.ups, h.sc]; rfl
theorem valR_val {rows : List Rw} (h : ∀ r ∈ rows, r.val.size ≤ 40) (k : ByteArray) : (valR rows k).1.size ≤ 100 := by
  unfold valR
  cases hf : rows.find? (fun r => decide (r.key = k)) with
  | none => exact Nat.zero_le _
  | some r => have := h r (List.mem_of_find?_eq_some hf); dsimp only; omega
theorem Seen.val {V : List (ByteArray × List Vn)} {since : Nat} {rows : List Rw} (h : Seen V since rows) : ∀ k, (valR rows k).1.size ≤ 100 := valR_val fun r hr => (h.qr.ok r hr).2
theorem Seen.v6 {V : List (ByteArray × List Vn)} {since : Nat} {rows : List Rw} (h : Seen V since rows) : ∀ e ∈ V, e.2.length ≤ 1000000 := fun e he => Nat.le_trans (h.v1 e he) (by omega)
theorem Seen.new {rows : List Rw} (h : QRows rows) : Seen (newV rows) 0 rows := by
  refine ⟨fun k => newV_read rows k (by omega), fun f => ?_, newV_nodup h.ups, by rw [newV_length]; have := h.len; omega, newV_len1 rows, h⟩
  exact (Past.new h.ups).scan (m := 0) (by omega) (j := 0) (by simp) (by simp) f
end Go.Proofs.YtagcmjmcjpjihaaGreatDoor
namespace Go.Proofs.YtagcmjmcjpjihaaGreatDoor
open Go.RowKit
/-- What is known of it: m sectors of log; not more than B acts. -/
structure CoreOk (m B : Nat) (c : Core) : Prop where
  up : StUp (m + 50) c.d c.h c.R0 c.W0 c.u
  ps : Past c.nn c.frm c.V c.past
  rows : c.past[c.nn]? = some (rowsW c.R0 c.W0)
  all : ∀ l ∈ c.past, SRows l
  kl : c.keys.length = c.nn + 1
  k12 : ∀ ks ∈ c.keys, ks.length ≤ 12
  kn : c.kf ≤ c.nn
  ep : c.h.ep ≤ B + 1
  nB : c.nn ≤ B
  vl : c.V.length ≤ 40 + 12 * B
  vc : cntV c.V ≤ 40 + 12 * B
  b : B ≤ 1000
/-- A deed of it. -/
structure DeedOk (c : Core) (x : Dv) : Prop where
  f : c.frm ≤ x.since
  k : c.kf ≤ x.since
  le : x.since ≤ c.nn
  q : QInv x.C x.R
theorem SRows.q {l : List Rw} (h : SRows l) : QRows l := ⟨h.ups, fun r hr => ⟨h.key r hr, h.val r hr⟩, by have := h.len; omega⟩
theorem cnt_one {V : List (ByteArray × List Vn)} {n : Nat} (h : cntV V ≤ n) : ∀ e ∈ V, e.2.length ≤ n := fun e he => Nat.le_trans (cnt_mem he) h
theorem CoreOk.sees {m B : Nat} {c : Core} (h : CoreOk m B c) {n : Nat} (h1 : c.frm ≤ n) (h2 : n ≤ c.nn) : Seen c.V n (c.at n) := by
  have hl := h.ps.len
  have hn : n < c.past.length := by omega
  have e : c.at n = c.past[n] := by unfold Core.at; rw [List.getElem?_eq_getElem hn]; rfl
  rw [e]
  have hb := h.b
  exact ⟨h.ps.reads n hn h1, h.ps.scan (m := n) (by omega) (j := n) (by omega) hn, h.ps.inv.keys, by have := h.vl; omega, cnt_one (by have := h.vc; omega), (h.all _ (List.getElem_mem hn)).q⟩
theorem CoreOk.now {m B : Nat} {c : Core} (h : CoreOk m B c) : c.at c.nn = rowsW c.R0 c.W0 := by unfold Core.at; rw [h.rows]; rfl
theorem CoreOk.more {m B B' : Nat} {c : Core} (h : CoreOk m B c) (hb : B ≤ B') (hB : B' ≤ 1000) : CoreOk m B' c :=
  ⟨h.up, h.ps, h.rows, h.all, h.kl, h.k12, h.kn, by have := h.ep; omega, by have := h.nB; omega, by have := h.vl; omega, by have := h.vc; omega, hB⟩
/-- A new one over a store. -/
def Core.new (d : Dk) (h : Hd) (R0 : List Rw) (W0 : List (List Ch)) (u : Nat) : Core := ⟨d, h, R0, W0, u, 0, 0, newV (rowsW R0 W0), [rowsW R0 W0], 0, [[]]⟩
theorem CoreOk.new {m B : Nat} {d : Dk} {h : Hd} {R0 : List Rw} {W0 : List (List Ch)} {u : Nat} (U : StUp (m + 50) d h R0 W0 u) (he : h.ep ≤ B + 1) (hB : B ≤ 1000) : CoreOk m B (Core.new d h R0 W0 u) := by
  have hs := U.st.now
  refine ⟨U, Past.new hs.ups, rfl, fun l hl => by rw [List.mem_singleton.1 hl]; exact hs, rfl, fun ks hk => by rw [List.mem_singleton.1 hk]; exact Nat.zero_le _, Nat.le_refl _, he, Nat.zero_le _, ?_, ?_, hB⟩
  · show (newV _).length ≤ _
    rw [newV_length]; have := hs.len; omega
  · show cntV (newV _) ≤ _
    have := cnt_new (rowsW R0 W0); have := hs.len; omega
/-- A deed is committed. -/
noncomputable def Core.com (c : Core) (C : List Ch) (d : Dk) (h : Hd) (R0 : List Rw) (W0 : List (List Ch)) (u s : Nat) : Core :=
  ⟨d, h, R0, W0, u, c.nn + 1, c.frm, commitV c.nn C c.V, c.past ++ [C.foldl appR (c.at c.nn)], max c.kf s, c.keys ++ [keysOf C]⟩
theorem deedFrom_zero : ∀ {l : List Ch} {p : Option ByteArray}, Ups l → (∀ c ∈ l, chN c = 0) → (∀ k c, p = some k → c ∈ l → slt k c.key = true) → deedFrom p l = 0
  | [], _, _, _, _ => rfl
  | c :: l, p, hu, hg, hp => by
    obtain ⟨h1, h2⟩ := List.pairwise_cons.1 hu
    unfold deedFrom
    rw [if_neg (by rw [hg c (List.mem_cons_self ..)]; simp), if_neg]
    · exact deedFrom_zero h2 (fun x hx => hg x (List.mem_cons_of_mem _ hx)) fun k x e hx => by
        injection e with e
        rw [← e]; exact h1 x hx
    · cases p with
      | none => simp
      | some k => simp [hp k c rfl (List.mem_cons_self ..)]
theorem QInv.deed {C : List Ch} {R : List Sp} (h : QInv C R) : deedN C = 0 := deedFrom_zero h.ups h.good fun _ _ e => by cases e
theorem CoreOk.com {m B : Nat} {c : Core} (H : CoreOk m B c) {C : List Ch} {R : List Sp} (hq : QInv C R) {d : Dk} {h : Hd} {R0 : List Rw} {W0 : List (List Ch)} {u s : Nat} (U : StUp (m + 50) d h R0 W0 u) (hr : rowsW R0 W0 = C.foldl appR (c.at c.nn)) (he : h.ep ≤ c.h.ep + 1) (hs : s ≤ c.nn + 1) (hB : B + 1 ≤ 1000) :
    CoreOk m (B + 1) (c.com C d h R0 W0 u s) := by
  have hl := H.ps.len
  have hn : c.nn < c.past.length := by omega
  have e : c.at c.nn = c.past[c.nn] := by unfold Core.at; rw [List.getElem?_eq_getElem hn]; rfl
  have hp := H.ps.commit hq.deed hn
  rw [← e] at hp
  obtain ⟨c1, c2⟩ := commit_len c.nn C c.V
  have h12 := hq.c12
  refine ⟨U, hp, ?_, ?_, ?_, ?_, ?_, ?_, ?_, ?_, ?_, hB⟩
  · show (c.past ++ [C.foldl appR (c.at c.nn)])[c.nn + 1]? = _
    rw [List.getElem?_append_right (by omega), hl, Nat.sub_self]
    exact congrArg some hr.symm
  · intro l hm
    rcases List.mem_append.1 hm with hm | hm
    · exact H.all l hm
    · rw [List.mem_singleton.1 hm, ← hr]; exact U.st.now
  · show (c.keys ++ [keysOf C]).length = _
    rw [List.length_append, H.kl]; rfl
  · intro ks hm
    rcases List.mem_append.1 hm with hm | hm
    · exact H.k12 ks hm
    · rw [List.mem_singleton.1 hm]; unfold keysOf; rw [List.length_map]; exact h12
  · show max c.kf s ≤ c.nn + 1
    have := H.kn; omega
  · show h.ep ≤ _; have := H.ep; omega
  · show c.nn + 1 ≤ _; have := H.nB; omega
  · show (commitV c.nn C c.V).length ≤ _; have := H.vl; omega
  · show cntV (commitV c.nn C c.V) ≤ _; have := H.vc; omega
/-- The history behind a deed: it is noted, and what nobody wants is forgotten. -/
theorem CoreOk.hist {m B : Nat} {c : Core} (H : CoreOk m B c) (C : List Ch) (d : Dk) (h : Hd) (R0 : List Rw) (W0 : List (List Ch)) (u s : Nat) :
    (c.st ++ [(((c.nn + 1 : Nat) : Int), keysOf C)]).filter (fun x => decide (x.1 > (s : Int))) = (c.com C d h R0 W0 u s).st := by
  have hk := H.kn
  have hl := H.kl
  have e : c.st ++ [(((c.nn + 1 : Nat) : Int), keysOf C)] = histL (c.keys ++ [keysOf C]) c.kf (c.nn + 1 - c.kf) := by
    unfold Core.st histL
    rw [show c.nn + 1 - c.kf = (c.nn - c.kf) + 1 from by omega, List.range'_concat, List.map_append, List.map_singleton]
    congr 1
    · refine List.map_congr_left fun n hn => ?_
      obtain ⟨h1, h2⟩ := List.mem_range'_1.1 hn
      rw [List.getElem?_append_left (by omega)]
    · rw [show c.kf + 1 + 1 * (c.nn - c.kf) = c.nn + 1 from by omega, List.getElem?_append_right (by omega), hl, Nat.sub_self]
      rfl
  rw [e]
  show _ = histL (c.keys ++ [keysOf C]) (max c.kf s) (c.nn + 1 - max c.kf s)
  by_cases hs : c.kf ≤ s
  · rw [histL_filter _ _ _ _ hs, show c.kf + (c.nn + 1 - c.kf) - s = c.nn + 1 - s from by omega, show max c.kf s = s from by omega]
  · rw [show max c.kf s = c.kf from by omega]
    refine List.filter_eq_self.2 fun x hx => ?_
    obtain ⟨n, h1, _, rfl⟩ := histL_mem hx
    simp only [decide_eq_true_eq]
    omega
/-- All rows are laid. -/
def Core.ck (c : Core) (d : Dk) (h : Hd) (R0 : List Rw) (W0 : List (List Ch)) (u : Nat) : Core := { c with d, h, R0, W0, u }
theorem CoreOk.ck {m B : Nat} {c : Core} (H : CoreOk m B c) {d : Dk} {h : Hd} {R0 : List Rw} {W0 : List (List Ch)} {u : Nat} (U : StUp (m + 50) d h R0 W0 u) (hr : rowsW R0 W0 = rowsW c.R0 c.W0) (he : h.ep ≤ c.h.ep + 1) (hB : B + 1 ≤ 1000) : CoreOk m (B + 1) (c.ck d h R0 W0 u) :=
  ⟨U, H.ps, H.rows.trans (by rw [← hr]; rfl), H.all, H.kl, H.k12, H.kn, by have := H.ep; show h.ep ≤ _; omega, by have := H.nB; show c.nn ≤ _; omega, by have := H.vl; show c.V.length ≤ _; omega, by have := H.vc; show cntV c.V ≤ _; omega, hB⟩
end Go.Proofs.YtagcmjmcjpjihaaGreatDoor
namespace Go.Proofs.YtagcmjmcjpjihaaGreatDoor
open Go.RowKit
/-- What a Commit answers, and leaves: n, k: its answers; c', D': what is kept, the deeds. -/
inductive ComOk (m B : Nat) (c : Core) (D : Nat → Option (Nat × Dv)) (i : Nat) (x : Dv) : Nat → Nat → Core → (Nat → Option (Nat × Dv)) → Prop
  | none : x.C = [] → ComOk m B c D i x x.since 0 c (setF D i none)
  | late : x.C ≠ [] → clearA c.keys x.R x.since = false → ComOk m B c D i x 0 9 c (setF D i none)
  | full : x.C ≠ [] → clearA c.keys x.R x.since = true → commitN (c.at c.nn) x.C m ≠ 0 → commitN (c.at c.nn) x.C m ≤ 8 → ComOk m B c D i x 0 (commitN (c.at c.nn) x.C m) c D
  | done (d : Dk) (h : Hd) (R0 : List Rw) (W0 : List (List Ch)) (u : Nat) : x.C ≠ [] → clearA c.keys x.R x.since = true → commitN (c.at c.nn) x.C m = 0 →
      CoreOk m (B + 1) (c.com x.C d h R0 W0 u (sinceA (c.nn + 1) (setF D i none))) → (c.d.fuse = -1 → d.fuse = -1) → ComOk m B c D i x (c.nn + 1) 0 (c.com x.C d h R0 W0 u (sinceA (c.nn + 1) (setF D i none))) (setF D i none)
  | down (c' : Core) : x.C ≠ [] → clearA c.keys x.R x.since = true → commitN (c.at c.nn) x.C m = 0 → c.d.fuse ≠ -1 → DkOk (m + 50) 2000 c'.d →
      (∀ K : Int, StOn (m + 50) (c'.d.restart K) (c.h.ep + 1) (c.at c.nn) ∨ StOn (m + 50) (c'.d.restart K) (c.h.ep + 1) (x.C.foldl appR (c.at c.nn))) → ComOk m B c D i x 0 10 c' D
structure ComX (m B : Nat) (c : Core) (D : Nat → Option (Nat × Dv)) (i : Nat) (x : Dv) where
  n : Nat
  k : Nat
  c' : Core
  D' : Nat → Option (Nat × Dv)
  ok : ComOk m B c D i x n k c' D'
theorem setF_some {D : Nat → Option (Nat × Dv)} {s i : Nat} {o : Option (Nat × Dv)} {x : Nat × Dv} (h : setF D s o i = some x) : (i = s ∧ o = some x) ∨ (i ≠ s ∧ D i = some x) := by
  unfold setF at h
  split at h
  · rename_i e; exact .inl ⟨e, h⟩
  · rename_i e; exact .inr ⟨e, h⟩
theorem DeedOk.qr {m B : Nat} {c : Core} (H : CoreOk m B c) {x : Dv} (h : DeedOk c x) : QRows (c.at x.since) := (H.sees h.f h.le).qr
theorem QInv.none : QInv [] [] := ⟨List.Pairwise.nil, by simp, by simp, fun c hc => by cases hc⟩
theorem CoreOk.fresh {m B : Nat} {c : Core} (H : CoreOk m B c) : DeedOk c ⟨c.nn, [], []⟩ := ⟨H.ps.le, H.kn, Nat.le_refl _, QInv.none⟩
theorem DeedOk.com {c : Core} {x : Dv} (h : DeedOk c x) {C : List Ch} {d : Dk} {hd : Hd} {R0 : List Rw} {W0 : List (List Ch)} {u s : Nat} (hs : s ≤ x.since) : DeedOk (c.com C d hd R0 W0 u s) x :=
  ⟨h.f, Nat.max_le.2 ⟨h.k, hs⟩, Nat.le_trans h.le (Nat.le_succ _), h.q⟩
theorem and3 (a : Int) : ∃ s : Nat, s < 4 ∧ bits .and .i64 a 3 = (s : Int) := by
  have h : (BitVec.ofInt 64 a &&& BitVec.ofInt 64 3).toNat ≤ 3 := by
    rw [BitVec.toNat_and]; exact Nat.le_trans Nat.and_le_right (by decide)
  have h2 : 0 ≤ bits .and .i64 a 3 ∧ bits .and .i64 a 3 ≤ 3 := by
    show 0 ≤ IntKind.i64.wrap ((BitVec.ofInt 64 a &&& BitVec.ofInt 64 3).toNat : Int) ∧ IntKind.i64.wrap ((BitVec.ofInt 64 a &&& BitVec.ofInt 64 3).toNat : Int) ≤ 3
    generalize (BitVec.ofInt 64 a &&& BitVec.ofInt 64 3).toNat = n at *
    rw [IntKind.wrap_i64]; omega
  exact ⟨(bits .and .i64 a 3).toNat, by omega, by omega⟩
theorem setF_twice (D : Nat → Option (Nat × Dv)) (s : Nat) (a b : Option (Nat × Dv)) : setF (setF D s a) s b = setF D s b := by
  funext j
  unfold setF
  split <;> rfl
theorem CoreOk.comLe {m B : Nat} {c : Core} (H : CoreOk m B c) (C : List Ch) (d : Dk) (h : Hd) (R0 : List Rw) (W0 : List (List Ch)) (u s : Nat) {n : Nat} (hn : n ≤ c.nn) : (c.com C d h R0 W0 u s).at n = c.at n := by
  have hl := H.ps.len
  unfold Core.at
  show ((c.past ++ [C.foldl appR (c.at c.nn)])[n]?).getD [] = _
  rw [List.getElem?_append_left (by omega)]
end Go.Proofs.YtagcmjmcjpjihaaGreatDoor
namespace Go.Proofs.YtagcmjmcjpjihaaGreatDoor
open Go.RowKit
end Go.Proofs.YtagcmjmcjpjihaaGreatDoor
namespace Go.Proofs.YtagcmjmcjpjihaaGreatDoor
open Go.RowKit
/-- Where a look goes on: nowhere yet, or behind a message. -/
def FrmOk (name frm : ByteArray) (k : Nat) : Prop := (k = 0 ∧ frm = ⟨#[]⟩) ∨ ∃ n, n < 1000000 ∧ k = n + 1 ∧ frm = msgB name n ++ nul
theorem FrmOk.lo {name frm : ByteArray} {k : Nat} (hn : NameOk name) (h : FrmOk name frm k) : ∃ lo, (if slt (loB name) frm then frm else loB name) = lo ∧ LoOk name k lo := by
  rcases h with ⟨rfl, rfl⟩ | ⟨n, hn2, rfl, rfl⟩
  · refine ⟨loB name, ?_, .inl ⟨rfl, rfl⟩⟩
    rw [if_neg]
    rw [show slt (loB name) ⟨#[]⟩ = false from by unfold slt; rw [ByteArray.toList_eq ⟨#[]⟩]; cases (loB name).toList <;> rfl]
    simp
  · exact ⟨_, if_pos (lo_msg hn n), .inr ⟨n, hn2, rfl, rfl⟩⟩
end Go.Proofs.YtagcmjmcjpjihaaGreatDoor
namespace Go.Proofs.YtagcmjmcjpjihaaGreatDoor
open Go.RowKit
/-- What Receive answers, the changes, what was read. -/
inductive RecvAns (rows : List Rw) (C : List Ch) (R : List Sp) (name : ByteArray) (now long : Int) : Ms × Nat × List Ch × List Sp → Prop
  | nofind {res} (h : (findN (valR rows (queB name)) C R name).2 ≠ 0) (e : res = (Ms.z, (findN (valR rows (queB name)) C R name).2, C, findR C R name)) : RecvAns rows C R name now long res
  | notime {res} (h0 : (findN (valR rows (queB name)) C R name).2 = 0) (h : timeN [now, long] ≠ 0) (e : res = (Ms.z, 1, C, findR C R name)) : RecvAns rows C R name now long res
  | fail {res r} (h0 : (findN (valR rows (queB name)) C R name).2 = 0) (ht : timeN [now, long] = 0) (hr : Recv rows name (findN (valR rows (queB name)) C R name).1 now long C (findR C R name) (loB name) r) (hb : r.2.1 ≠ 0) (e : res = (Ms.z, r.2.1, C, r.2.2.2)) : RecvAns rows C R name now long res
  | done {res} (h0 : (findN (valR rows (queB name)) C R name).2 = 0) (ht : timeN [now, long] = 0) (hr : Recv rows name (findN (valR rows (queB name)) C R name).1 now long C (findR C R name) (loB name) res) (hb : res.2.1 = 0) : RecvAns rows C R name now long res
end Go.Proofs.YtagcmjmcjpjihaaGreatDoor
namespace Go.Proofs.YtagcmjmcjpjihaaGreatDoor
open Go.RowKit
def Ac.v (x : Ac) : Value := .agg #[.string x.kind, .int .i64 x.a, .int .i64 x.b, .int .i64 x.c, .int .u64 x.k, .string x.s, .string x.t, .slice x.cp x.ch.length x.cc, .slice x.sp x.spn.length x.sc]
theorem findN_le (y : ByteArray × Bool) (C : List Ch) (R : List Sp) (name : ByteArray) : (findN y C R name).2 ≤ 1000 := by
  unfold findN
  split
  · show 3 ≤ 1000; omega
  · split
    · exact getG_le _ _ _ _
    · split
      · show 5 ≤ 1000; omega
      · exact Nat.le_trans (quOf_le _) (by omega)
theorem putqN_le (C : List Ch) (name : ByteArray) (u : Qu) : putqN C name u ≤ 1000 := by
  unfold putqN
  split
  · exact Nat.le_trans u.txt_le (by omega)
  · exact putN_le _ _
theorem setN_le (C : List Ch) (name : ByteArray) (m : Ms) : setN C name m ≤ 1000 := by
  unfold setN
  split
  · exact Nat.le_trans m.txt_le (by omega)
  · exact putN_le _ _
theorem sendA_le (C : List Ch) (name : ByteArray) (u : Qu) (body : ByteArray) (til : Int) : (sendA C name u body til).2.1 ≤ 1000 := by
  unfold sendA
  split
  · show 8 ≤ 1000; omega
  · split
    · exact Nat.le_trans (Ms.txt_le _) (by omega)
    · split
      · exact putN_le _ _
      · exact putqN_le _ _ _
theorem buryA_le (B : ByteArray → ByteArray × Bool) (C : List Ch) (R : List Sp) (name : ByteArray) (u : Qu) (m : Ms) : (buryA B C R name u m).1 ≤ 1000 := by
  unfold buryA
  split
  · exact putN_le _ _
  · split
    · exact Nat.zero_le _
    · split
      · exact findN_le _ _ _ _
      · exact sendA_le _ _ _ _ _
theorem Recv.le {rows : List Rw} {name : ByteArray} {u : Qu} {now long : Int} {C : List Ch} {R : List Sp} {lo : ByteArray} {res : Ms × Nat × List Ch × List Sp} (h : Recv rows name u now long C R lo res) : res.2.1 ≤ 1000 := by
  induction h with
  | bad hL h1 e => subst e; dsimp only; exact scnN_le _ _ _ _ _
  | empty hL h1 e => subst e; show 12 ≤ 1000; omega
  | text hL h1 hn hv h2 e => subst e; exact Nat.le_trans (msOf_le _ _) (by omega)
  | skip hL h1 hn hv h2 h3 h ih => exact ih
  | lost hL h1 hn hv h2 h3 h4 h5 e => subst e; exact buryA_le _ _ _ _ _ _
  | bury hL h1 hn hv h2 h3 h4 h5 h ih => exact ih
  | take hL h1 hn hv h2 h3 h4 e => subst e; exact setN_le _ _ _
theorem RecvAns.le {rows : List Rw} {C : List Ch} {R : List Sp} {name : ByteArray} {now long : Int} {res : Ms × Nat × List Ch × List Sp} (h : RecvAns rows C R name now long res) : res.2.1 ≤ 1000 := by
  cases h with
  | nofind h e => subst e; exact findN_le _ _ _ _
  | notime h0 h e => subst e; show 1 ≤ 1000; omega
  | fail h0 ht hr hb e => subst e; exact hr.le
  | done h0 ht hr hb => exact hr.le
theorem QInv.get {C : List Ch} {R : List Sp} (h : QInv C R) (k : ByteArray) : QInv C (getB C R k) := h.reads (getB_len h.r40)
theorem QInv.mine {C : List Ch} {R : List Sp} (h : QInv C R) (B : ByteArray → ByteArray × Bool) (name : ByteArray) (n tries : Int) : QInv C (mineR B C R name n tries) := by
  unfold mineR
  split
  · exact h.find _
  · exact (h.find _).get _
theorem QInv.wait {C : List Ch} {R : List Sp} (h : QInv C R) (B : ByteArray → ByteArray × Bool) (name : ByteArray) (n tries til : Int) : QInv (waitA B C R name n tries til).2 (mineR B C R name n tries) := by
  unfold waitA
  split
  · exact h.mine _ _ _ _
  · split
    · exact h.mine _ _ _ _
    · exact (h.mine _ _ _ _).set _ _
theorem Does.wit {P : Program} {f : Nat} {args : Array Value} {rs : List Rs} {α β : Type} {g : α → Value × List Rs} {g' : β → Value × List Rs} (h : Does P f args rs g) (k : ∀ x, ∃ y, g' y = g x) : Does P f args rs g' := fun S W w L0 hO =>
  (h S W w L0 hO).mono fun e w' ⟨x, he, ho⟩ => by
    obtain ⟨y, hy⟩ := k x
    exact ⟨y, by rw [hy]; exact he, by rw [hy]; exact ho⟩
end Go.Proofs.YtagcmjmcjpjihaaGreatDoor
namespace Go.Proofs.YtagcmjmcjpjihaaGreatDoor
open Go.RowKit
def kT : ByteArray := ⟨#[116, 47, 110]⟩
def xsB (n : Nat) : ByteArray := ⟨Array.replicate n 120⟩
def rowsC (n : Nat) : List Rw := if n = 0 then [] else [⟨kT, xsB n⟩]
def chT (n : Nat) : Ch := ⟨kT, xsB n, false⟩
theorem kT_ok : KeyOk kT := .inl ⟨⟨#[110]⟩, by decide, .inl (by decide)⟩
theorem xsB_size (n : Nat) : (xsB n).size = n := by show (Array.replicate n (120 : UInt8)).size = n; simp
theorem xsB_succ (n : Nat) : xsB n ++ ⟨#[120]⟩ = xsB (n + 1) := by
  apply ByteArray.ext
  rw [ByteArray.data_append]
  show Array.replicate n 120 ++ #[120] = Array.replicate (n + 1) 120
  rw [Array.replicate_succ]
  simp
theorem slt_kT : slt kT kT = false := bl_irrefl _
theorem chT_ok {n : Nat} (h : n ≤ 40) : chN (chT n) = 0 := by
  unfold chN
  rw [if_pos (show KeyOk (chT n).key from kT_ok), if_neg (fun e => by cases e.1), if_neg (show ¬ 40 < (chT n).val.size by show ¬ 40 < (xsB n).size; rw [xsB_size]; omega)]
theorem chT_big {n : Nat} (h : 40 < n) : chN (chT n) = 1 := by
  unfold chN
  rw [if_pos (show KeyOk (chT n).key from kT_ok), if_neg (fun e => by cases e.1), if_pos (show 40 < (chT n).val.size by show 40 < (xsB n).size; rw [xsB_size]; omega)]
theorem putT_ok {n : Nat} (h : n ≤ 40) : putN [] (chT n) = 0 ∧ putL [] (chT n) = [chT n] := by
  have e : putC [] (chT n) = [chT n] := rfl
  have h0 : putN [] (chT n) = 0 := by
    unfold putN
    rw [if_neg (by rw [chT_ok h]; simp), if_neg (by rw [e]; show ¬ 12 < 1; omega)]
  exact ⟨h0, by unfold putL; rw [if_pos h0, e]⟩
theorem putT_big {n : Nat} (h : 40 < n) : putN [] (chT n) = 1 := by
  unfold putN
  rw [if_pos (by rw [chT_big h]; omega), chT_big h]
theorem valC (n : Nat) : valR (rowsC n) kT = (xsB n, decide (0 < n)) := by
  unfold rowsC
  split
  · subst n; rfl
  · rename_i h
    unfold valR
    rw [List.find?_cons_of_pos (by simp)]
    simp; omega
theorem rowsC_len (n : Nat) : (rowsC n).length ≤ 1 := by unfold rowsC; split <;> simp
theorem appC (n : Nat) : [chT (n + 1)].foldl appR (rowsC n) = rowsC (n + 1) := by
  show appF (chT (n + 1)) false (rowsC n) = _
  unfold rowsC
  rw [if_neg (by omega : ¬ n + 1 = 0)]
  split
  · rfl
  · rw [appF, if_pos ⟨rfl, slt_kT⟩, if_pos (show kT = (chT (n + 1)).key from rfl)]
    rfl
theorem commitC {n m : Nat} (h : n + 1 ≤ 40) (hm : 2 ≤ m) : commitN (rowsC n) [chT (n + 1)] m = 0 := by
  have hf : faultN [chT (n + 1)] = 0 := by unfold faultN; rw [if_pos (chT_ok h)]; rfl
  have hl : [chT (n + 1)].length = 1 := rfl
  unfold commitN
  rw [hl, if_neg (by omega), if_neg (by rw [hf]; simp), appC, if_neg (by have := rowsC_len (n + 1); omega), if_neg (by omega)]
/-- Deeds that count: how many came to be; what each that is begun has read. -/
structure Cnt (c : Core) (D : Nat → Option (Nat × Dv)) (M : Nat → ByteArray) : Prop where
  rows : ∀ n ≤ c.nn, c.at n = rowsC n
  keys : ∀ n, 1 ≤ n → n ≤ c.nn → c.keys[n]? = some [kT]
  le : c.nn ≤ 40
  deeds : ∀ i < 4, ∀ x, D i = some x → DeedOk c x.2 ∧ x.2.C = [] ∧ x.2.R = [Sp.point kT] ∧ M i = xsB x.2.since
theorem clearC {c : Core} {D : Nat → Option (Nat × Dv)} {M : Nat → ByteArray} (h : Cnt c D M) (hk : c.keys.length = c.nn + 1) {s : Nat} (hs : s ≤ c.nn) : clearA c.keys [Sp.point kT] s = decide (s = c.nn) := by
  have hp : (Sp.point kT).has kT = true := by kernel_rfl
  by_cases e : s = c.nn
  · subst e
    rw [decide_eq_true rfl]
    unfold clearA
    rw [List.drop_eq_nil_of_le (by omega)]
    rfl
  · rw [decide_eq_false e]
    unfold clearA
    rw [List.all_eq_false]
    refine ⟨[kT], ?_, by simp [hp]⟩
    have := h.keys (s + 1) (by omega) (by omega)
    rw [List.mem_drop_iff_getElem]
    obtain ⟨h1, h2⟩ := List.getElem?_eq_some_iff.1 this
    exact ⟨0, by omega, by simpa using h2⟩
end Go.Proofs.YtagcmjmcjpjihaaGreatDoor
