/- Texts Turn, Sym, Sym2, Lines, QueueLaw of this claim, laid together. -/
import Derived.Test.YtmknhibaoopjjaaGreatDoorGQueueSaysProof34
import Derived.Test.YtmknhibaoopjjaaGreatDoorGQueueSaysProof12
import Derived.Test.YtmknhibaoopjjaaGreatDoorGQueueSaysProof33
set_option linter.unusedVariables false
set_option linter.unusedSimpArgs false
namespace Go.Proofs.YtmknhibaoopjjaaGreatDoor
open Go.RowKit
def Ac.v (x : Ac) : Value := .agg #[.string x.kind, .int .i64 x.a, .int .i64 x.b, .int .i64 x.c, .int .u64 x.k, .string x.s, .string x.t, .slice x.cp x.ch.length x.cc, .slice x.sp x.spn.length x.sc]
theorem findN_le (y : ByteArray × Bool) (C : List Ch) (R : List Sp) (name : ByteArray) : (findN y C R name).2 ≤ 1000 := by
  unfold findN
  split
  · show 3 ≤ 1000; omega
  · split
    · exact getG_le _ _ _ _
    · split
      · show 5 ≤ 1000; omega
      · exact Nat.le_trans (quOf_le _) (by omega)
theorem putqN_le (C : List Ch) (name : ByteArray) (u : Qu) : putqN C name u ≤ 1000 := by
  unfold putqN
  split
  · exact Nat.le_trans u.txt_le (by omega)
  · exact putN_le _ _
theorem setN_le (C : List Ch) (name : ByteArray) (m : Ms) : setN C name m ≤ 1000 := by
  unfold setN
  split
  · exact Nat.le_trans m.txt_le (by omega)
  · exact putN_le _ _
theorem sendA_le (C : List Ch) (name : ByteArray) (u : Qu) (body : ByteArray) (til : Int) : (sendA C name u body til).2.1 ≤ 1000 := by
  unfold sendA
  split
  · show 8 ≤ 1000; omega
  · split
    · exact Nat.le_trans (Ms.txt_le _) (by omega)
    · split
      · exact putN_le _ _
      · exact putqN_le _ _ _
theorem SendA_le (y : ByteArray × Bool) (C : List Ch) (R : List Sp) (name body : ByteArray) (til : Int) : (SendA y C R name body til).2.1 ≤ 1000 := by
  unfold SendA
  split
  · exact findN_le _ _ _ _
  · split
    · show 1 ≤ 1000; omega
    · split
      · exact sendA_le _ _ _ _ _
      · exact Nat.zero_le _
theorem createA_le (B : ByteArray → ByteArray × Bool) (C : List Ch) (R : List Sp) (name : ByteArray) (tries : Int) (dead : ByteArray) : (createA B C R name tries dead).1 ≤ 1000 := by
  unfold createA
  split
  · show 6 ≤ 1000; omega
  · split
    · exact findN_le _ _ _ _
    · split
      · show 3 ≤ 1000; omega
      · split
        · exact putqN_le _ _ _
        · split
          · exact findN_le _ _ _ _
          · exact putqN_le _ _ _
theorem mineA_le (B : ByteArray → ByteArray × Bool) (C : List Ch) (R : List Sp) (name : ByteArray) (n tries : Int) : (mineA B C R name n tries).2 ≤ 1000 := by
  unfold mineA
  split
  · exact findN_le _ _ _ _
  · split
    · show 1 ≤ 1000; omega
    · split
      · exact getG_le _ _ _ _
      · split
        · show 11 ≤ 1000; omega
        · split
          · exact Nat.le_trans (msOf_le _ _) (by omega)
          · split
            · show 11 ≤ 1000; omega
            · show 0 ≤ 1000; omega
theorem ackA_le (B : ByteArray → ByteArray × Bool) (C : List Ch) (R : List Sp) (name : ByteArray) (n tries : Int) : (ackA B C R name n tries).1 ≤ 1000 := by
  unfold ackA
  split
  · exact mineA_le _ _ _ _ _ _
  · exact putN_le _ _
theorem waitA_le (B : ByteArray → ByteArray × Bool) (C : List Ch) (R : List Sp) (name : ByteArray) (n tries til : Int) : (waitA B C R name n tries til).1 ≤ 1000 := by
  unfold waitA
  split
  · exact mineA_le _ _ _ _ _ _
  · split
    · show 1 ≤ 1000; omega
    · exact setN_le _ _ _
theorem buryA_le (B : ByteArray → ByteArray × Bool) (C : List Ch) (R : List Sp) (name : ByteArray) (u : Qu) (m : Ms) : (buryA B C R name u m).1 ≤ 1000 := by
  unfold buryA
  split
  · exact putN_le _ _
  · split
    · exact Nat.zero_le _
    · split
      · exact findN_le _ _ _ _
      · exact sendA_le _ _ _ _ _
theorem Recv.le {rows : List Rw} {name : ByteArray} {u : Qu} {now long : Int} {C : List Ch} {R : List Sp} {lo : ByteArray} {res : Ms × Nat × List Ch × List Sp} (h : Recv rows name u now long C R lo res) : res.2.1 ≤ 1000 := by
  induction h with
  | bad hL h1 e => subst e; dsimp only; exact scnN_le _ _ _ _ _
  | empty hL h1 e => subst e; show 12 ≤ 1000; omega
  | text hL h1 hn hv h2 e => subst e; exact Nat.le_trans (msOf_le _ _) (by omega)
  | skip hL h1 hn hv h2 h3 h ih => exact ih
  | lost hL h1 hn hv h2 h3 h4 h5 e => subst e; exact buryA_le _ _ _ _ _ _
  | bury hL h1 hn hv h2 h3 h4 h5 h ih => exact ih
  | take hL h1 hn hv h2 h3 h4 e => subst e; exact setN_le _ _ _
theorem RecvAns.le {rows : List Rw} {C : List Ch} {R : List Sp} {name : ByteArray} {now long : Int} {res : Ms × Nat × List Ch × List Sp} (h : RecvAns rows C R name now long res) : res.2.1 ≤ 1000 := by
  cases h with
  | nofind h e => subst e; exact findN_le _ _ _ _
  | notime h0 h e => subst e; show 1 ≤ 1000; omega
  | fail h0 ht hr hb e => subst e; exact hr.le
  | done h0 ht hr hb => exact hr.le
theorem msgsA_le (rows : List Rw) (C : List Ch) (R : List Sp) (name : ByteArray) : (msgsA rows C R name).2.1 ≤ 1000 := by
  unfold msgsA
  split
  · exact findN_le _ _ _ _
  · split
    · dsimp only; exact scnN_le _ _ _ _ _
    · split
      · show 4 ≤ 1000; omega
      · exact Nat.zero_le _
theorem msgsA_len (rows : List Rw) (C : List Ch) (R : List Sp) (name : ByteArray) : (msgsA rows C R name).1.length ≤ 53 := by
  unfold msgsA
  split
  · exact Nat.zero_le _
  · split
    · exact Nat.zero_le _
    · split
      · exact Nat.zero_le _
      · rw [List.length_map, List.length_take]; omega
/-- Behind an act: what is so of changes and reads. -/
theorem QInv.create {C : List Ch} {R : List Sp} (h : QInv C R) (B : ByteArray → ByteArray × Bool) (name : ByteArray) (tries : Int) (dead : ByteArray) : QInv (createA B C R name tries dead).2.1 (createA B C R name tries dead).2.2 := by
  unfold createA
  split
  · exact h.find _
  · split
    · exact h.find _
    · split
      · exact h.find _
      · split
        · exact (h.find _).putq _ _
        · split
          · exact (h.find _).find _
          · exact ((h.find _).find _).putq _ _
theorem QInv.Send {C : List Ch} {R : List Sp} (h : QInv C R) (y : ByteArray × Bool) (name body : ByteArray) (til : Int) : QInv (SendA y C R name body til).2.2 (findR C R name) := by
  unfold SendA
  split
  · exact h.find _
  · split
    · exact h.find _
    · split
      · exact h.find _
      · exact (h.find _).send _ _ _ _
theorem QInv.get {C : List Ch} {R : List Sp} (h : QInv C R) (k : ByteArray) : QInv C (getB C R k) := h.reads (getB_len h.r40)
theorem QInv.mine {C : List Ch} {R : List Sp} (h : QInv C R) (B : ByteArray → ByteArray × Bool) (name : ByteArray) (n tries : Int) : QInv C (mineR B C R name n tries) := by
  unfold mineR
  split
  · exact h.find _
  · exact (h.find _).get _
theorem QInv.ack {C : List Ch} {R : List Sp} (h : QInv C R) (B : ByteArray → ByteArray × Bool) (name : ByteArray) (n tries : Int) : QInv (ackA B C R name n tries).2 (mineR B C R name n tries) := by
  unfold ackA
  split
  · exact h.mine _ _ _ _
  · exact (h.mine _ _ _ _).put _
theorem QInv.wait {C : List Ch} {R : List Sp} (h : QInv C R) (B : ByteArray → ByteArray × Bool) (name : ByteArray) (n tries til : Int) : QInv (waitA B C R name n tries til).2 (mineR B C R name n tries) := by
  unfold waitA
  split
  · exact h.mine _ _ _ _
  · split
    · exact h.mine _ _ _ _
    · exact (h.mine _ _ _ _).set _ _
theorem QInv.msgs {C : List Ch} {R : List Sp} (h : QInv C R) (rows : List Rw) (name : ByteArray) : QInv C (msgsA rows C R name).2.2 := by
  unfold msgsA
  split
  · exact h.find _
  · split
    · dsimp only; exact (h.find _).scan _ _ _ _
    · split
      · dsimp only; exact (h.find _).scan _ _ _ _
      · dsimp only; exact (h.find _).scan _ _ _ _
theorem Does.wit {P : Program} {f : Nat} {args : Array Value} {rs : List Rs} {α β : Type} {g : α → Value × List Rs} {g' : β → Value × List Rs} (h : Does P f args rs g) (k : ∀ x, ∃ y, g' y = g x) : Does P f args rs g' := fun S W w L0 hO =>
  (h S W w L0 hO).mono fun e w' ⟨x, he, ho⟩ => by
    obtain ⟨y, hy⟩ := k x
    exact ⟨y, by rw [hy]; exact he, by rw [hy]; exact ho⟩
set_option maxHeartbeats 8000000 in
set_option maxRecDepth 100000 in
theorem turn_create (q p since nn : Nat) (V : List (ByteArray × List Vn)) (rows : List Rw) (hs : Seen V since rows) (C : List Ch) (R : List Sp) (hI : QInv C R) (mq : Nat) (ra : Option Addr) (rc : Nat) (x : Ac) (hxs : x.s.size ≤ 120) (hxt : x.t.size ≤ 100) {φ : World → Prop} (hφ : ∀ w, φ w → LibOk w) (k0 : (x.kind.toList == [99, 114, 101, 97, 116, 101]) = true) :
    Does Tryz.prog 40 #[.pointer (some ⟨q, 0, none⟩), .pointer (some ⟨mq, 0, none⟩), x.v] [ViewR q p since C R, VerR p nn V, RViewR mq since ra rc rows C R, .imm φ] (fun _ : Unit => (.bool true, [ViewR q p since (createA (valR rows) C R x.s x.a x.t).2.1 (createA (valR rows) C R x.s x.a x.t).2.2, VerR p nn V, RViewR mq since ra rc rows (createA (valR rows) C R x.s x.a x.t).2.1 (createA (valR rows) C R x.s x.a x.t).2.2, .imm φ])) := by
  have hc12 := hI.c12
  have hr40 := hI.r40
  have hrl := hs.qr.len
  have HC := qCreate_does q p since nn V (valR rows) C R x.s x.a x.t hs.rd hs.val hI.val (by omega) (by omega) (by omega) hI.ups hI.r40 hs.v6 hφ
  have HQ := rCreate_does mq since ra rc rows C R x.s x.a x.t (valR_val fun r hr => (hs.qr.ok r hr).2) hI.val (by omega) (by omega) (by omega) (by omega) hI.ups hI.r40
  have HS := same_ok (createA (valR rows) C R x.s x.a x.t).1 (createA_le _ _ _ _ _ _)
  generalize createA (valR rows) C R x.s x.a x.t = y at *
  obtain ⟨N, C', R'⟩ := y
  dsimp only at HC HQ HS ⊢
  generalize errV N = ev at *
  obtain ⟨xkind, xA, xB, xC, xK, xS, xT, xcp, xcc, xch, xsp, xsc, xspn⟩ := x
  unfold Ac.v
  dsimp only at *
  clear hs hI
  intro S W w L0 hO; simp only [CA] at hO
  ((try clear hf); have hf := fa_ hO)
  go_enter Tryz.func40, Tryz.ntmps40
  go_wp2_with (first | ((refine sy_ hO ?_); clear hO; intro w9 hO; (try dsimp only [List.set] at hO); ((try clear hf); have hf := fa_ hO)))
  obtain ⟨ga, hg9⟩ := (hO.pick (r := Var _ [.string xkind, .int .i64 xA, .int .i64 xB, .int .i64 xC, .int .u64 xK, .string xS, .string xT, .slice xcp xch.length xcc, .slice xsp xspn.length xsc] 39) pk_).named; rw [← hg9]; rw [← hg9] at hO; clear hg9
  (refine wp_region_run (fun w8 => Own _ _ w8 (Var ga [.string xkind, .int .i64 xA, .int .i64 xB, .int .i64 xC, .int .u64 xK, .string xS, .string xT, .slice xcp xch.length xcc, .slice xsp xspn.length xsc] 39 :: L0)) (fun _ _ h hx => h.ext hx) (hO.cut sb_) ((0, 0) :: (0, 1) :: (2, 2) :: (0, 3) :: (2, 4) :: (0, 5) :: (2, 6) :: (0, 8) :: (0, 9) :: (2, 10) :: (0, 11) :: (2, 12) :: (0, 13) :: (2, 14) :: (5, 7) :: (5, 15) :: (5, 16) :: (0, 17) :: []) (by kernel_rfl) (by kernel_rfl) rfl (fun _ _ d _ _ h => by cases d <;> exact h) ?_; intro w9 hx9; replace hO := hO.ext hx9; clear hx9; ((try clear hf); have hf := fa_ hO); (repeat (first | (apply inRun_p _ rfl rfl rfl; focus (intro w8 K8 hK8; (repeat (first | go_skip | go_guarded | go_step)); exact hK8)) | (apply inRun_s _ rfl rfl rfl; focus (intro w8 hI8 K8 hK8; (try clear hf); have hf := hI8.facts; (try simp only [FZ, Nat.reduceAdd] at hf); skip; (repeat (first | go_skip | go_guarded | go_step)); exact hK8)))))
  (refine inRun_d rfl ?_; intro K8 hK8; (repeat (first | go_skip | go_guarded | go_step)); (go_at_call 54; (with_reducible apply Does.use hO (HC); (focus exact tk_); clear hO; intro x9 w9 hO; dsimp only at hO ⊢; simp only [CA] at hO; ((try clear hf); have hf := fa_ hO))); (repeat go_step); refine hK8 _ _ (hO.cut sb_) ?_; clear hK8 K8)
  (refine inRun_d rfl ?_; intro K8 hK8; (repeat (first | go_skip | go_guarded | go_step)); (go_at_call 110; (with_reducible apply Does.use hO (HQ); (focus exact tk_); clear hO; intro x9 w9 hO; dsimp only at hO ⊢; simp only [CA] at hO; ((try clear hf); have hf := fa_ hO))); (repeat go_step); refine hK8 _ _ (hO.cut sb_) ?_; clear hK8 K8)
  (refine inRun_d rfl ?_; intro K8 hK8; (repeat (first | go_skip | go_guarded | go_step)); (go_at_call 19; (with_reducible apply Calls.mono (HS _); rintro e8 w8 ⟨rfl, rfl⟩; dsimp only)); (repeat go_step); refine hK8 _ _ (hO.cut sb_) ?_; clear hK8 K8)
  (repeat (first | (apply inRun_p _ rfl rfl rfl; focus (intro w8 K8 hK8; (repeat (first | go_skip | go_guarded | go_step)); exact hK8)) | (apply inRun_s _ rfl rfl rfl; focus (intro w8 hI8 K8 hK8; (try clear hf); have hf := hI8.facts; (try simp only [FZ, Nat.reduceAdd] at hf); skip; (repeat (first | go_skip | go_guarded | go_step)); exact hK8))))
  refine inRun_nil ?_
  go_wp2_with (first | ((refine sy_ hO ?_); clear hO; intro w9 hO; (try dsimp only [List.set] at hO); ((try clear hf); have hf := fa_ hO)))
  go_ret
  refine ⟨(), rfl, ?_⟩
  (try simp only [CA])
  exact hO.cut sb_
set_option maxHeartbeats 8000000 in
set_option maxRecDepth 100000 in
theorem turn_send (q p since nn : Nat) (V : List (ByteArray × List Vn)) (rows : List Rw) (hs : Seen V since rows) (C : List Ch) (R : List Sp) (hI : QInv C R) (mq : Nat) (ra : Option Addr) (rc : Nat) (x : Ac) (hxs : x.s.size ≤ 120) (hxt : x.t.size ≤ 100) {φ : World → Prop} (hφ : ∀ w, φ w → LibOk w) (k0 : (x.kind.toList == [99, 114, 101, 97, 116, 101]) = false) (k1 : (x.kind.toList == [115, 101, 110, 100]) = true) :
    Does Tryz.prog 40 #[.pointer (some ⟨q, 0, none⟩), .pointer (some ⟨mq, 0, none⟩), x.v] [ViewR q p since C R, VerR p nn V, RViewR mq since ra rc rows C R, .imm φ] (fun _ : Unit => (.bool true, [ViewR q p since (SendA (valR rows (queB x.s)) C R x.s x.t x.a).2.2 (findR C R x.s), VerR p nn V, RViewR mq since ra rc rows (SendA (valR rows (queB x.s)) C R x.s x.t x.a).2.2 (findR C R x.s), .imm φ])) := by
  have hc12 := hI.c12
  have hr40 := hI.r40
  have hrl := hs.qr.len
  have HC := qSend_does q p since nn V C R x.s x.t x.a _ (hs.rd _) (hs.val _) hI.val (by omega) (by omega) hI.ups hI.r40 hs.v6 hφ
  have HQ := rSend_does mq since ra rc rows C R x.s x.t x.a (valR_val (fun r hr => (hs.qr.ok r hr).2) _) hI.val (by omega) (by omega) (by omega) hI.ups hI.r40
  have HS := same_ok (SendA (valR rows (queB x.s)) C R x.s x.t x.a).2.1 (SendA_le _ _ _ _ _ _)
  generalize SendA (valR rows (queB x.s)) C R x.s x.t x.a = y at *
  generalize findR C R x.s = R' at *
  obtain ⟨n, N, C'⟩ := y
  dsimp only at HC HQ HS ⊢
  generalize errV N = ev at *
  obtain ⟨xkind, xA, xB, xC, xK, xS, xT, xcp, xcc, xch, xsp, xsc, xspn⟩ := x
  unfold Ac.v
  dsimp only at *
  clear hs hI
  intro S W w L0 hO; simp only [CA] at hO
  ((try clear hf); have hf := fa_ hO)
  go_enter Tryz.func40, Tryz.ntmps40
  go_wp2_with (first | (go_at_call 55; (with_reducible apply Does.use hO (HC); (focus exact tk_); clear hO; intro x9 w9 hO; dsimp only at hO ⊢; simp only [CA] at hO; ((try clear hf); have hf := fa_ hO))) | (go_at_call 111; (with_reducible apply Does.use hO (HQ); (focus exact tk_); clear hO; intro x9 w9 hO; dsimp only at hO ⊢; simp only [CA] at hO; ((try clear hf); have hf := fa_ hO))) | (go_at_call 19; (with_reducible apply Calls.mono (HS _); rintro e8 w8 ⟨rfl, rfl⟩; dsimp only)) | ((refine sy_ hO ?_); clear hO; intro w9 hO; (try dsimp only [List.set] at hO); ((try clear hf); have hf := fa_ hO)))
  go_ret
  refine ⟨(), rfl, ?_⟩
  (try simp only [CA])
  exact hO.cut sb_
set_option maxHeartbeats 8000000 in
set_option maxRecDepth 100000 in
theorem turn_receive (q p since nn : Nat) (V : List (ByteArray × List Vn)) (rows : List Rw) (hs : Seen V since rows) (C : List Ch) (R : List Sp) (hI : QInv C R) (mq : Nat) (ra : Option Addr) (rc : Nat) (x : Ac) (hxs : x.s.size ≤ 120) (hxt : x.t.size ≤ 100) {φ : World → Prop} (hφ : ∀ w, φ w → LibOk w) (res : Ms × Nat × List Ch × List Sp) (hr : RecvAns rows C R x.s x.a x.b res) (k0 : (x.kind.toList == [99, 114, 101, 97, 116, 101]) = false) (k1 : (x.kind.toList == [115, 101, 110, 100]) = false) (k2 : (x.kind.toList == [114, 101, 99, 101, 105, 118, 101]) = true) :
    Does Tryz.prog 40 #[.pointer (some ⟨q, 0, none⟩), .pointer (some ⟨mq, 0, none⟩), x.v] [ViewR q p since C R, VerR p nn V, RViewR mq since ra rc rows C R, .imm φ] (fun _ : Unit => (.bool true, [ViewR q p since res.2.2.1 res.2.2.2, VerR p nn V, RViewR mq since ra rc rows res.2.2.1 res.2.2.2, .imm φ])) := by
  have hc12 := hI.c12
  have hr40 := hI.r40
  have hrl := hs.qr.len
  have HC := qReceive_does q p since nn V rows hs C R x.s x.a x.b res hr hI (by omega) hφ
  have HQ := rReceive_does mq since ra rc rows hs.qr C R x.s x.a x.b res hr hI (by omega)
  have HS := same_ok res.2.1 hr.le
  clear hr
  obtain ⟨⟨m1, m2, m3, m4⟩, N, C', R'⟩ := res
  unfold Ms.v at HC HQ
  dsimp only at HC HQ HS ⊢
  generalize errV N = ev at *
  obtain ⟨xkind, xA, xB, xC, xK, xS, xT, xcp, xcc, xch, xsp, xsc, xspn⟩ := x
  unfold Ac.v
  dsimp only at *
  clear hs hI
  intro S W w L0 hO; simp only [CA] at hO
  ((try clear hf); have hf := fa_ hO)
  go_enter Tryz.func40, Tryz.ntmps40
  go_wp2_with (first | (go_at_call 56; (with_reducible apply Does.use hO (HC); (focus exact tk_); clear hO; intro x9 w9 hO; dsimp only at hO ⊢; simp only [CA] at hO; ((try clear hf); have hf := fa_ hO))) | (go_at_call 112; (with_reducible apply Does.use hO (HQ); (focus exact tk_); clear hO; intro x9 w9 hO; dsimp only at hO ⊢; simp only [CA] at hO; ((try clear hf); have hf := fa_ hO))) | (go_at_call 19; (with_reducible apply Calls.mono (HS _); rintro e8 w8 ⟨rfl, rfl⟩; dsimp only)) | ((refine sy_ hO ?_); clear hO; intro w9 hO; (try dsimp only [List.set] at hO); ((try clear hf); have hf := fa_ hO)))
  go_ret
  refine ⟨(), rfl, ?_⟩
  (try simp only [CA])
  exact hO.cut sb_
set_option maxHeartbeats 8000000 in
set_option maxRecDepth 100000 in
theorem turn_ack (q p since nn : Nat) (V : List (ByteArray × List Vn)) (rows : List Rw) (hs : Seen V since rows) (C : List Ch) (R : List Sp) (hI : QInv C R) (mq : Nat) (ra : Option Addr) (rc : Nat) (x : Ac) (hxs : x.s.size ≤ 120) (hxt : x.t.size ≤ 100) {φ : World → Prop} (hφ : ∀ w, φ w → LibOk w) (k0 : (x.kind.toList == [99, 114, 101, 97, 116, 101]) = false) (k1 : (x.kind.toList == [115, 101, 110, 100]) = false) (k2 : (x.kind.toList == [114, 101, 99, 101, 105, 118, 101]) = false) (k3 : (x.kind.toList == [97, 99, 107]) = true) :
    Does Tryz.prog 40 #[.pointer (some ⟨q, 0, none⟩), .pointer (some ⟨mq, 0, none⟩), x.v] [ViewR q p since C R, VerR p nn V, RViewR mq since ra rc rows C R, .imm φ] (fun _ : Unit => (.bool true, [ViewR q p since (ackA (valR rows) C R x.s x.a x.b).2 (mineR (valR rows) C R x.s x.a x.b), VerR p nn V, RViewR mq since ra rc rows (ackA (valR rows) C R x.s x.a x.b).2 (mineR (valR rows) C R x.s x.a x.b), .imm φ])) := by
  have hc12 := hI.c12
  have hr40 := hI.r40
  have hrl := hs.qr.len
  have HC := qack_does q p since nn V (valR rows) C R x.s x.a x.b hs.rd hs.val hI.val (by omega) (by omega) hI.ups hI.r40 hs.v6 hφ
  have HQ := rack_does mq since ra rc rows C R x.s x.a x.b (valR_val fun r hr => (hs.qr.ok r hr).2) hI.val (by omega) (by omega) (by omega) hI.ups hI.r40
  have HS := same_ok (ackA (valR rows) C R x.s x.a x.b).1 (ackA_le _ _ _ _ _ _)
  generalize ackA (valR rows) C R x.s x.a x.b = y at *
  generalize mineR (valR rows) C R x.s x.a x.b = R' at *
  obtain ⟨N, C'⟩ := y
  dsimp only at HC HQ HS ⊢
  generalize errV N = ev at *
  obtain ⟨xkind, xA, xB, xC, xK, xS, xT, xcp, xcc, xch, xsp, xsc, xspn⟩ := x
  unfold Ac.v
  dsimp only at *
  clear hs hI
  intro S W w L0 hO; simp only [CA] at hO
  ((try clear hf); have hf := fa_ hO)
  go_enter Tryz.func40, Tryz.ntmps40
  go_wp2_with (first | ((refine sy_ hO ?_); clear hO; intro w9 hO; (try dsimp only [List.set] at hO); ((try clear hf); have hf := fa_ hO)))
  obtain ⟨ga, hg9⟩ := (hO.pick (r := Var _ [.string xkind, .int .i64 xA, .int .i64 xB, .int .i64 xC, .int .u64 xK, .string xS, .string xT, .slice xcp xch.length xcc, .slice xsp xspn.length xsc] 39) pk_).named; rw [← hg9]; rw [← hg9] at hO; clear hg9
  (refine wp_region_run (fun w8 => Own _ _ w8 (Var ga [.string xkind, .int .i64 xA, .int .i64 xB, .int .i64 xC, .int .u64 xK, .string xS, .string xT, .slice xcp xch.length xcc, .slice xsp xspn.length xsc] 39 :: L0)) (fun _ _ h hx => h.ext hx) (hO.cut sb_) ((0, 0) :: (0, 1) :: (2, 2) :: (0, 3) :: (2, 4) :: (0, 5) :: (2, 6) :: (0, 8) :: (0, 9) :: (2, 10) :: (0, 11) :: (2, 12) :: (0, 13) :: (2, 14) :: (5, 7) :: (5, 15) :: (5, 16) :: (0, 17) :: []) (by kernel_rfl) (by kernel_rfl) rfl (fun _ _ d _ _ h => by cases d <;> exact h) ?_; intro w9 hx9; replace hO := hO.ext hx9; clear hx9; ((try clear hf); have hf := fa_ hO); (repeat (first | (apply inRun_p _ rfl rfl rfl; focus (intro w8 K8 hK8; (repeat (first | go_skip | go_guarded | go_step)); exact hK8)) | (apply inRun_s _ rfl rfl rfl; focus (intro w8 hI8 K8 hK8; (try clear hf); have hf := hI8.facts; (try simp only [FZ, Nat.reduceAdd] at hf); skip; (repeat (first | go_skip | go_guarded | go_step)); exact hK8)))))
  (refine inRun_d rfl ?_; intro K8 hK8; (repeat (first | go_skip | go_guarded | go_step)); (go_at_call 58; (with_reducible apply Does.use hO (HC); (focus exact tk_); clear hO; intro x9 w9 hO; dsimp only at hO ⊢; simp only [CA] at hO; ((try clear hf); have hf := fa_ hO))); (repeat go_step); refine hK8 _ _ (hO.cut sb_) ?_; clear hK8 K8)
  (refine inRun_d rfl ?_; intro K8 hK8; (repeat (first | go_skip | go_guarded | go_step)); (go_at_call 113; (with_reducible apply Does.use hO (HQ); (focus exact tk_); clear hO; intro x9 w9 hO; dsimp only at hO ⊢; simp only [CA] at hO; ((try clear hf); have hf := fa_ hO))); (repeat go_step); refine hK8 _ _ (hO.cut sb_) ?_; clear hK8 K8)
  (refine inRun_d rfl ?_; intro K8 hK8; (repeat (first | go_skip | go_guarded | go_step)); (go_at_call 19; (with_reducible apply Calls.mono (HS _); rintro e8 w8 ⟨rfl, rfl⟩; dsimp only)); (repeat go_step); refine hK8 _ _ (hO.cut sb_) ?_; clear hK8 K8)
  (repeat (first | (apply inRun_p _ rfl rfl rfl; focus (intro w8 K8 hK8; (repeat (first | go_skip | go_guarded | go_step)); exact hK8)) | (apply inRun_s _ rfl rfl rfl; focus (intro w8 hI8 K8 hK8; (try clear hf); have hf := hI8.facts; (try simp only [FZ, Nat.reduceAdd] at hf); skip; (repeat (first | go_skip | go_guarded | go_step)); exact hK8))))
  refine inRun_nil ?_
  go_wp2_with (first | ((refine sy_ hO ?_); clear hO; intro w9 hO; (try dsimp only [List.set] at hO); ((try clear hf); have hf := fa_ hO)))
  go_ret
  refine ⟨(), rfl, ?_⟩
  (try simp only [CA])
  exact hO.cut sb_
set_option maxHeartbeats 8000000 in
set_option maxRecDepth 100000 in
theorem turn_wait (q p since nn : Nat) (V : List (ByteArray × List Vn)) (rows : List Rw) (hs : Seen V since rows) (C : List Ch) (R : List Sp) (hI : QInv C R) (mq : Nat) (ra : Option Addr) (rc : Nat) (x : Ac) (hxs : x.s.size ≤ 120) (hxt : x.t.size ≤ 100) {φ : World → Prop} (hφ : ∀ w, φ w → LibOk w) (k0 : (x.kind.toList == [99, 114, 101, 97, 116, 101]) = false) (k1 : (x.kind.toList == [115, 101, 110, 100]) = false) (k2 : (x.kind.toList == [114, 101, 99, 101, 105, 118, 101]) = false) (k3 : (x.kind.toList == [97, 99, 107]) = false) (k4 : (x.kind.toList == [119, 97, 105, 116]) = true) :
    Does Tryz.prog 40 #[.pointer (some ⟨q, 0, none⟩), .pointer (some ⟨mq, 0, none⟩), x.v] [ViewR q p since C R, VerR p nn V, RViewR mq since ra rc rows C R, .imm φ] (fun _ : Unit => (.bool true, [ViewR q p since (waitA (valR rows) C R x.s x.a x.b x.c).2 (mineR (valR rows) C R x.s x.a x.b), VerR p nn V, RViewR mq since ra rc rows (waitA (valR rows) C R x.s x.a x.b x.c).2 (mineR (valR rows) C R x.s x.a x.b), .imm φ])) := by
  have hc12 := hI.c12
  have hr40 := hI.r40
  have hrl := hs.qr.len
  have HC := qwait_does q p since nn V (valR rows) C R x.s x.a x.b x.c hs.rd hs.val hI.val (by omega) (by omega) hI.ups hI.r40 hs.v6 hφ
  have HQ := rwait_does mq since ra rc rows C R x.s x.a x.b x.c (valR_val fun r hr => (hs.qr.ok r hr).2) hI.val (by omega) (by omega) (by omega) hI.ups hI.r40
  have HS := same_ok (waitA (valR rows) C R x.s x.a x.b x.c).1 (waitA_le _ _ _ _ _ _ _)
  generalize waitA (valR rows) C R x.s x.a x.b x.c = y at *
  generalize mineR (valR rows) C R x.s x.a x.b = R' at *
  obtain ⟨N, C'⟩ := y
  dsimp only at HC HQ HS ⊢
  generalize errV N = ev at *
  obtain ⟨xkind, xA, xB, xC, xK, xS, xT, xcp, xcc, xch, xsp, xsc, xspn⟩ := x
  unfold Ac.v
  dsimp only at *
  clear hs hI
  intro S W w L0 hO; simp only [CA] at hO
  ((try clear hf); have hf := fa_ hO)
  go_enter Tryz.func40, Tryz.ntmps40
  go_wp2_with (first | ((refine sy_ hO ?_); clear hO; intro w9 hO; (try dsimp only [List.set] at hO); ((try clear hf); have hf := fa_ hO)))
  obtain ⟨ga, hg9⟩ := (hO.pick (r := Var _ [.string xkind, .int .i64 xA, .int .i64 xB, .int .i64 xC, .int .u64 xK, .string xS, .string xT, .slice xcp xch.length xcc, .slice xsp xspn.length xsc] 39) pk_).named; rw [← hg9]; rw [← hg9] at hO; clear hg9
  (refine wp_region_run (fun w8 => Own _ _ w8 (Var ga [.string xkind, .int .i64 xA, .int .i64 xB, .int .i64 xC, .int .u64 xK, .string xS, .string xT, .slice xcp xch.length xcc, .slice xsp xspn.length xsc] 39 :: L0)) (fun _ _ h hx => h.ext hx) (hO.cut sb_) ((0, 0) :: (0, 1) :: (2, 2) :: (0, 3) :: (2, 4) :: (0, 5) :: (2, 6) :: (0, 7) :: (2, 8) :: (0, 10) :: (0, 11) :: (2, 12) :: (0, 13) :: (2, 14) :: (0, 15) :: (2, 16) :: (0, 17) :: (2, 18) :: (5, 9) :: (5, 19) :: (5, 20) :: (0, 21) :: []) (by kernel_rfl) (by kernel_rfl) rfl (fun _ _ d _ _ h => by cases d <;> exact h) ?_; intro w9 hx9; replace hO := hO.ext hx9; clear hx9; ((try clear hf); have hf := fa_ hO); (repeat (first | (apply inRun_p _ rfl rfl rfl; focus (intro w8 K8 hK8; (repeat (first | go_skip | go_guarded | go_step)); exact hK8)) | (apply inRun_s _ rfl rfl rfl; focus (intro w8 hI8 K8 hK8; (try clear hf); have hf := hI8.facts; (try simp only [FZ, Nat.reduceAdd] at hf); skip; (repeat (first | go_skip | go_guarded | go_step)); exact hK8)))))
  (refine inRun_d rfl ?_; intro K8 hK8; (repeat (first | go_skip | go_guarded | go_step)); (go_at_call 59; (with_reducible apply Does.use hO (HC); (focus exact tk_); clear hO; intro x9 w9 hO; dsimp only at hO ⊢; simp only [CA] at hO; ((try clear hf); have hf := fa_ hO))); (repeat go_step); refine hK8 _ _ (hO.cut sb_) ?_; clear hK8 K8)
  (refine inRun_d rfl ?_; intro K8 hK8; (repeat (first | go_skip | go_guarded | go_step)); (go_at_call 114; (with_reducible apply Does.use hO (HQ); (focus exact tk_); clear hO; intro x9 w9 hO; dsimp only at hO ⊢; simp only [CA] at hO; ((try clear hf); have hf := fa_ hO))); (repeat go_step); refine hK8 _ _ (hO.cut sb_) ?_; clear hK8 K8)
  (refine inRun_d rfl ?_; intro K8 hK8; (repeat (first | go_skip | go_guarded | go_step)); (go_at_call 19; (with_reducible apply Calls.mono (HS _); rintro e8 w8 ⟨rfl, rfl⟩; dsimp only)); (repeat go_step); refine hK8 _ _ (hO.cut sb_) ?_; clear hK8 K8)
  (repeat (first | (apply inRun_p _ rfl rfl rfl; focus (intro w8 K8 hK8; (repeat (first | go_skip | go_guarded | go_step)); exact hK8)) | (apply inRun_s _ rfl rfl rfl; focus (intro w8 hI8 K8 hK8; (try clear hf); have hf := hI8.facts; (try simp only [FZ, Nat.reduceAdd] at hf); skip; (repeat (first | go_skip | go_guarded | go_step)); exact hK8))))
  refine inRun_nil ?_
  go_wp2_with (first | ((refine sy_ hO ?_); clear hO; intro w9 hO; (try dsimp only [List.set] at hO); ((try clear hf); have hf := fa_ hO)))
  go_ret
  refine ⟨(), rfl, ?_⟩
  (try simp only [CA])
  exact hO.cut sb_
set_option maxHeartbeats 8000000 in
set_option maxRecDepth 100000 in
theorem turn_find (q p since nn : Nat) (V : List (ByteArray × List Vn)) (rows : List Rw) (hs : Seen V since rows) (C : List Ch) (R : List Sp) (hI : QInv C R) (mq : Nat) (ra : Option Addr) (rc : Nat) (x : Ac) (hxs : x.s.size ≤ 120) (hxt : x.t.size ≤ 100) {φ : World → Prop} (hφ : ∀ w, φ w → LibOk w) (k0 : (x.kind.toList == [99, 114, 101, 97, 116, 101]) = false) (k1 : (x.kind.toList == [115, 101, 110, 100]) = false) (k2 : (x.kind.toList == [114, 101, 99, 101, 105, 118, 101]) = false) (k3 : (x.kind.toList == [97, 99, 107]) = false) (k4 : (x.kind.toList == [119, 97, 105, 116]) = false) (k5 : (x.kind.toList == [102, 105, 110, 100]) = true) :
    Does Tryz.prog 40 #[.pointer (some ⟨q, 0, none⟩), .pointer (some ⟨mq, 0, none⟩), x.v] [ViewR q p since C R, VerR p nn V, RViewR mq since ra rc rows C R, .imm φ] (fun _ : Unit => (.bool true, [ViewR q p since C (findR C R x.s), VerR p nn V, RViewR mq since ra rc rows C (findR C R x.s), .imm φ])) := by
  have hc12 := hI.c12
  have hr40 := hI.r40
  have hrl := hs.qr.len
  have HC := qFind_does q p since nn V C R x.s _ (hs.rd _) (hs.val _) hI.val (by omega) (by omega) hI.ups hI.r40 hs.v6 hφ
  have HQ := rFind_does mq since ra rc rows C R x.s (valR_val (fun r hr => (hs.qr.ok r hr).2) _) hI.val (by omega) (by omega) (by omega) hI.r40
  have HS := same_ok (findN (valR rows (queB x.s)) C R x.s).2 (findN_le _ _ _ _)
  generalize findN (valR rows (queB x.s)) C R x.s = y at *
  generalize findR C R x.s = R' at *
  obtain ⟨⟨un, ut, ud⟩, N⟩ := y
  unfold Qu.v at HC HQ
  dsimp only at HC HQ HS ⊢
  generalize errV N = ev at *
  obtain ⟨xkind, xA, xB, xC, xK, xS, xT, xcp, xcc, xch, xsp, xsc, xspn⟩ := x
  unfold Ac.v
  dsimp only at *
  clear hs hI
  intro S W w L0 hO; simp only [CA] at hO
  ((try clear hf); have hf := fa_ hO)
  go_enter Tryz.func40, Tryz.ntmps40
  go_wp2_with (first | (go_at_call 115; (with_reducible apply Does.use hO (HC); (focus exact tk_); clear hO; intro x9 w9 hO; dsimp only at hO ⊢; simp only [CA] at hO; ((try clear hf); have hf := fa_ hO))) | (go_at_call 116; (with_reducible apply Does.use hO (HQ); (focus exact tk_); clear hO; intro x9 w9 hO; dsimp only at hO ⊢; simp only [CA] at hO; ((try clear hf); have hf := fa_ hO))) | (go_at_call 19; (with_reducible apply Calls.mono (HS _); rintro e8 w8 ⟨rfl, rfl⟩; dsimp only)) | ((refine sy_ hO ?_); clear hO; intro w9 hO; (try dsimp only [List.set] at hO); ((try clear hf); have hf := fa_ hO)))
  go_ret
  refine ⟨(), rfl, ?_⟩
  (try simp only [CA])
  exact hO.cut sb_
set_option maxHeartbeats 8000000 in
set_option maxRecDepth 100000 in
theorem turn_put (q p since nn : Nat) (V : List (ByteArray × List Vn)) (rows : List Rw) (hs : Seen V since rows) (C : List Ch) (R : List Sp) (hI : QInv C R) (mq : Nat) (ra : Option Addr) (rc : Nat) (x : Ac) (hxs : x.s.size ≤ 120) (hxt : x.t.size ≤ 100) {φ : World → Prop} (hφ : ∀ w, φ w → LibOk w) (k0 : (x.kind.toList == [99, 114, 101, 97, 116, 101]) = false) (k1 : (x.kind.toList == [115, 101, 110, 100]) = false) (k2 : (x.kind.toList == [114, 101, 99, 101, 105, 118, 101]) = false) (k3 : (x.kind.toList == [97, 99, 107]) = false) (k4 : (x.kind.toList == [119, 97, 105, 116]) = false) (k5 : (x.kind.toList == [102, 105, 110, 100]) = false) (k6 : (x.kind.toList == [112, 117, 116]) = true) :
    Does Tryz.prog 40 #[.pointer (some ⟨q, 0, none⟩), .pointer (some ⟨mq, 0, none⟩), x.v] [ViewR q p since C R, VerR p nn V, RViewR mq since ra rc rows C R, .imm φ] (fun _ : Unit => (.bool true, [ViewR q p since (putL C ⟨x.s, x.t, false⟩) R, VerR p nn V, RViewR mq since ra rc rows (putL C ⟨x.s, x.t, false⟩) R, .imm φ])) := by
  have hc12 := hI.c12
  have hr40 := hI.r40
  have hrl := hs.qr.len
  have HC := vPut_does q p since C R x.s x.t (by omega) (by omega) (by omega) hI.ups hφ
  have HQ := rput_does mq since ra rc rows C R ⟨x.s, x.t, false⟩ (show x.s.size ≤ 300 by omega) (show x.t.size ≤ 1000 by omega) (by omega) hI.ups
  have HS := same_ok (putN C ⟨x.s, x.t, false⟩) (putN_le _ _)
  generalize putN C ⟨x.s, x.t, false⟩ = N at *
  generalize putL C ⟨x.s, x.t, false⟩ = C' at *
  unfold Ch.v at HQ
  generalize errV N = ev at *
  obtain ⟨xkind, xA, xB, xC, xK, xS, xT, xcp, xcc, xch, xsp, xsc, xspn⟩ := x
  unfold Ac.v
  dsimp only at *
  clear hs hI
  intro S W w L0 hO; simp only [CA] at hO
  ((try clear hf); have hf := fa_ hO)
  go_enter Tryz.func40, Tryz.ntmps40
  go_wp2_with (first | ((refine sy_ hO ?_); clear hO; intro w9 hO; (try dsimp only [List.set] at hO); ((try clear hf); have hf := fa_ hO)))
  obtain ⟨ga, hg9⟩ := (hO.pick (r := Var _ [.string xkind, .int .i64 xA, .int .i64 xB, .int .i64 xC, .int .u64 xK, .string xS, .string xT, .slice xcp xch.length xcc, .slice xsp xspn.length xsc] 39) pk_).named; rw [← hg9]; rw [← hg9] at hO; clear hg9
  (refine wp_region_run (fun w8 => Own _ _ w8 (Var ga [.string xkind, .int .i64 xA, .int .i64 xB, .int .i64 xC, .int .u64 xK, .string xS, .string xT, .slice xcp xch.length xcc, .slice xsp xspn.length xsc] 39 :: L0)) (fun _ _ h hx => h.ext hx) (hO.cut sb_) ((0, 0) :: (0, 1) :: (2, 2) :: (0, 3) :: (2, 4) :: (0, 6) :: (0, 7) :: (2, 8) :: (0, 9) :: (2, 10) :: (0, 11) :: (5, 5) :: (5, 12) :: (5, 13) :: (0, 14) :: []) (by kernel_rfl) (by kernel_rfl) rfl (fun _ _ d _ _ h => by cases d <;> exact h) ?_; intro w9 hx9; replace hO := hO.ext hx9; clear hx9; ((try clear hf); have hf := fa_ hO); (repeat (first | (apply inRun_p _ rfl rfl rfl; focus (intro w8 K8 hK8; (repeat (first | go_skip | go_guarded | go_step)); exact hK8)) | (apply inRun_s _ rfl rfl rfl; focus (intro w8 hI8 K8 hK8; (try clear hf); have hf := hI8.facts; (try simp only [FZ, Nat.reduceAdd] at hf); skip; (repeat (first | go_skip | go_guarded | go_step)); exact hK8)))))
  (refine inRun_d rfl ?_; intro K8 hK8; (repeat (first | go_skip | go_guarded | go_step)); (go_at_call 20; (with_reducible apply Does.use hO (HC); (focus exact tk_); clear hO; intro x9 w9 hO; dsimp only at hO ⊢; simp only [CA] at hO; ((try clear hf); have hf := fa_ hO))); (repeat go_step); refine hK8 _ _ (hO.cut sb_) ?_; clear hK8 K8)
  (refine inRun_d rfl ?_; intro K8 hK8; (repeat (first | go_skip | go_guarded | go_step)); (go_at_call 21; (with_reducible apply Does.use hO (HQ); (focus exact tk_); clear hO; intro x9 w9 hO; dsimp only at hO ⊢; simp only [CA] at hO; ((try clear hf); have hf := fa_ hO))); (repeat go_step); refine hK8 _ _ (hO.cut sb_) ?_; clear hK8 K8)
  (refine inRun_d rfl ?_; intro K8 hK8; (repeat (first | go_skip | go_guarded | go_step)); (go_at_call 19; (with_reducible apply Calls.mono (HS _); rintro e8 w8 ⟨rfl, rfl⟩; dsimp only)); (repeat go_step); refine hK8 _ _ (hO.cut sb_) ?_; clear hK8 K8)
  (repeat (first | (apply inRun_p _ rfl rfl rfl; focus (intro w8 K8 hK8; (repeat (first | go_skip | go_guarded | go_step)); exact hK8)) | (apply inRun_s _ rfl rfl rfl; focus (intro w8 hI8 K8 hK8; (try clear hf); have hf := hI8.facts; (try simp only [FZ, Nat.reduceAdd] at hf); skip; (repeat (first | go_skip | go_guarded | go_step)); exact hK8))))
  refine inRun_nil ?_
  go_wp2_with (first | ((refine sy_ hO ?_); clear hO; intro w9 hO; (try dsimp only [List.set] at hO); ((try clear hf); have hf := fa_ hO)))
  go_ret
  refine ⟨(), rfl, ?_⟩
  (try simp only [CA])
  exact hO.cut sb_
set_option maxHeartbeats 8000000 in
set_option maxRecDepth 100000 in
theorem turn_delete (q p since nn : Nat) (V : List (ByteArray × List Vn)) (rows : List Rw) (hs : Seen V since rows) (C : List Ch) (R : List Sp) (hI : QInv C R) (mq : Nat) (ra : Option Addr) (rc : Nat) (x : Ac) (hxs : x.s.size ≤ 120) (hxt : x.t.size ≤ 100) {φ : World → Prop} (hφ : ∀ w, φ w → LibOk w) (k0 : (x.kind.toList == [99, 114, 101, 97, 116, 101]) = false) (k1 : (x.kind.toList == [115, 101, 110, 100]) = false) (k2 : (x.kind.toList == [114, 101, 99, 101, 105, 118, 101]) = false) (k3 : (x.kind.toList == [97, 99, 107]) = false) (k4 : (x.kind.toList == [119, 97, 105, 116]) = false) (k5 : (x.kind.toList == [102, 105, 110, 100]) = false) (k6 : (x.kind.toList == [112, 117, 116]) = false) (k7 : (x.kind.toList == [100, 101, 108, 101, 116, 101]) = true) :
    Does Tryz.prog 40 #[.pointer (some ⟨q, 0, none⟩), .pointer (some ⟨mq, 0, none⟩), x.v] [ViewR q p since C R, VerR p nn V, RViewR mq since ra rc rows C R, .imm φ] (fun _ : Unit => (.bool true, [ViewR q p since (putL C ⟨x.s, ⟨#[]⟩, true⟩) R, VerR p nn V, RViewR mq since ra rc rows (putL C ⟨x.s, ⟨#[]⟩, true⟩) R, .imm φ])) := by
  have hc12 := hI.c12
  have hr40 := hI.r40
  have hrl := hs.qr.len
  have HC := vDelete_does q p since C R x.s (by omega) (by omega) hI.ups hφ
  have HQ := rput_does mq since ra rc rows C R ⟨x.s, ⟨#[]⟩, true⟩ (show x.s.size ≤ 300 by omega) (show (0 : Nat) ≤ 1000 by omega) (by omega) hI.ups
  have HS := same_ok (putN C ⟨x.s, ⟨#[]⟩, true⟩) (putN_le _ _)
  generalize putN C ⟨x.s, ⟨#[]⟩, true⟩ = N at *
  generalize putL C ⟨x.s, ⟨#[]⟩, true⟩ = C' at *
  unfold Ch.v at HQ
  generalize errV N = ev at *
  obtain ⟨xkind, xA, xB, xC, xK, xS, xT, xcp, xcc, xch, xsp, xsc, xspn⟩ := x
  unfold Ac.v
  dsimp only at *
  clear hs hI
  intro S W w L0 hO; simp only [CA] at hO
  ((try clear hf); have hf := fa_ hO)
  go_enter Tryz.func40, Tryz.ntmps40
  go_wp2_with (first | ((refine sy_ hO ?_); clear hO; intro w9 hO; (try dsimp only [List.set] at hO); ((try clear hf); have hf := fa_ hO)))
  obtain ⟨ga, hg9⟩ := (hO.pick (r := Var _ [.string xkind, .int .i64 xA, .int .i64 xB, .int .i64 xC, .int .u64 xK, .string xS, .string xT, .slice xcp xch.length xcc, .slice xsp xspn.length xsc] 39) pk_).named; rw [← hg9]; rw [← hg9] at hO; clear hg9
  (refine wp_region_run (fun w8 => Own _ _ w8 (Var ga [.string xkind, .int .i64 xA, .int .i64 xB, .int .i64 xC, .int .u64 xK, .string xS, .string xT, .slice xcp xch.length xcc, .slice xsp xspn.length xsc] 39 :: L0)) (fun _ _ h hx => h.ext hx) (hO.cut sb_) ((0, 0) :: (0, 1) :: (2, 2) :: (0, 4) :: (0, 5) :: (2, 6) :: (0, 7) :: (5, 3) :: (5, 8) :: (5, 9) :: (0, 10) :: []) (by kernel_rfl) (by kernel_rfl) rfl (fun _ _ d _ _ h => by cases d <;> exact h) ?_; intro w9 hx9; replace hO := hO.ext hx9; clear hx9; ((try clear hf); have hf := fa_ hO); (repeat (first | (apply inRun_p _ rfl rfl rfl; focus (intro w8 K8 hK8; (repeat (first | go_skip | go_guarded | go_step)); exact hK8)) | (apply inRun_s _ rfl rfl rfl; focus (intro w8 hI8 K8 hK8; (try clear hf); have hf := hI8.facts; (try simp only [FZ, Nat.reduceAdd] at hf); skip; (repeat (first | go_skip | go_guarded | go_step)); exact hK8)))))
  (refine inRun_d rfl ?_; intro K8 hK8; (repeat (first | go_skip | go_guarded | go_step)); (go_at_call 22; (with_reducible apply Does.use hO (HC); (focus exact tk_); clear hO; intro x9 w9 hO; dsimp only at hO ⊢; simp only [CA] at hO; ((try clear hf); have hf := fa_ hO))); (repeat go_step); refine hK8 _ _ (hO.cut sb_) ?_; clear hK8 K8)
  (refine inRun_d rfl ?_; intro K8 hK8; (repeat (first | go_skip | go_guarded | go_step)); (go_at_call 21; (with_reducible apply Does.use hO (HQ); (focus exact tk_); clear hO; intro x9 w9 hO; dsimp only at hO ⊢; simp only [CA] at hO; ((try clear hf); have hf := fa_ hO))); (repeat go_step); refine hK8 _ _ (hO.cut sb_) ?_; clear hK8 K8)
  (refine inRun_d rfl ?_; intro K8 hK8; (repeat (first | go_skip | go_guarded | go_step)); (go_at_call 19; (with_reducible apply Calls.mono (HS _); rintro e8 w8 ⟨rfl, rfl⟩; dsimp only)); (repeat go_step); refine hK8 _ _ (hO.cut sb_) ?_; clear hK8 K8)
  (repeat (first | (apply inRun_p _ rfl rfl rfl; focus (intro w8 K8 hK8; (repeat (first | go_skip | go_guarded | go_step)); exact hK8)) | (apply inRun_s _ rfl rfl rfl; focus (intro w8 hI8 K8 hK8; (try clear hf); have hf := hI8.facts; (try simp only [FZ, Nat.reduceAdd] at hf); skip; (repeat (first | go_skip | go_guarded | go_step)); exact hK8))))
  refine inRun_nil ?_
  go_wp2_with (first | ((refine sy_ hO ?_); clear hO; intro w9 hO; (try dsimp only [List.set] at hO); ((try clear hf); have hf := fa_ hO)))
  go_ret
  refine ⟨(), rfl, ?_⟩
  (try simp only [CA])
  exact hO.cut sb_
set_option maxHeartbeats 8000000 in
set_option maxRecDepth 100000 in
theorem turn_get (q p since nn : Nat) (V : List (ByteArray × List Vn)) (rows : List Rw) (hs : Seen V since rows) (C : List Ch) (R : List Sp) (hI : QInv C R) (mq : Nat) (ra : Option Addr) (rc : Nat) (x : Ac) (hxs : x.s.size ≤ 120) (hxt : x.t.size ≤ 100) {φ : World → Prop} (hφ : ∀ w, φ w → LibOk w) (k0 : (x.kind.toList == [99, 114, 101, 97, 116, 101]) = false) (k1 : (x.kind.toList == [115, 101, 110, 100]) = false) (k2 : (x.kind.toList == [114, 101, 99, 101, 105, 118, 101]) = false) (k3 : (x.kind.toList == [97, 99, 107]) = false) (k4 : (x.kind.toList == [119, 97, 105, 116]) = false) (k5 : (x.kind.toList == [102, 105, 110, 100]) = false) (k6 : (x.kind.toList == [112, 117, 116]) = false) (k7 : (x.kind.toList == [100, 101, 108, 101, 116, 101]) = false) (k8 : (x.kind.toList == [103, 101, 116]) = true) :
    Does Tryz.prog 40 #[.pointer (some ⟨q, 0, none⟩), .pointer (some ⟨mq, 0, none⟩), x.v] [ViewR q p since C R, VerR p nn V, RViewR mq since ra rc rows C R, .imm φ] (fun _ : Unit => (.bool true, [ViewR q p since C (getB C R x.s), VerR p nn V, RViewR mq since ra rc rows C (getB C R x.s), .imm φ])) := by
  have hc12 := hI.c12
  have hr40 := hI.r40
  have hrl := hs.qr.len
  have HC := vget_does q p since nn V C R x.s (by omega) (by omega) hI.ups hI.r40 hs.v6 hφ
  have HQ := rget_does mq since ra rc rows C R x.s (by omega) (by omega) (by omega) (by omega)
  rw [getA_G, hs.rd] at HC
  have HS := same_ok (getG (valR rows x.s) C R x.s).2.2 (getG_le _ _ _ _)
  generalize getG (valR rows x.s) C R x.s = y at *
  generalize getB C R x.s = R' at *
  obtain ⟨yv, yb, N⟩ := y
  dsimp only at HC HQ HS
  generalize errV N = ev at *
  obtain ⟨xkind, xA, xB, xC, xK, xS, xT, xcp, xcc, xch, xsp, xsc, xspn⟩ := x
  unfold Ac.v
  dsimp only at *
  clear hs hI
  intro S W w L0 hO; simp only [CA] at hO
  ((try clear hf); have hf := fa_ hO)
  go_enter Tryz.func40, Tryz.ntmps40
  go_wp2_with (first | (go_at_call 27; (with_reducible apply Does.use hO (HC); (focus exact tk_); clear hO; intro x9 w9 hO; dsimp only at hO ⊢; simp only [CA] at hO; ((try clear hf); have hf := fa_ hO))) | (go_at_call 28; (with_reducible apply Does.use hO (HQ); (focus exact tk_); clear hO; intro x9 w9 hO; dsimp only at hO ⊢; simp only [CA] at hO; ((try clear hf); have hf := fa_ hO))) | (go_at_call 19; (with_reducible apply Calls.mono (HS _); rintro e8 w8 ⟨rfl, rfl⟩; dsimp only)) | ((refine sy_ hO ?_); clear hO; intro w9 hO; (try dsimp only [List.set] at hO); ((try clear hf); have hf := fa_ hO)))
  go_ret
  refine ⟨(), rfl, ?_⟩
  (try simp only [CA])
  exact hO.cut sb_
/-- Which span is meant. -/
def Ac.span (x : Ac) : Sp := x.spn.headD ⟨⟨#[]⟩, ⟨#[]⟩⟩
set_option maxHeartbeats 8000000 in
set_option maxRecDepth 100000 in
theorem turn_scan (q p since nn : Nat) (V : List (ByteArray × List Vn)) (rows : List Rw) (hs : Seen V since rows) (C : List Ch) (R : List Sp) (hI : QInv C R) (mq : Nat) (ra : Option Addr) (rc : Nat) (x : Ac) (hxs : x.s.size ≤ 120) (hxt : x.t.size ≤ 100) {φ : World → Prop} (hφ : ∀ w, φ w → LibOk w) (hsp : ∀ w, φ w → SpansAt w x.sp x.spn ∧ x.spn.length ≤ maxLen) (k0 : (x.kind.toList == [99, 114, 101, 97, 116, 101]) = false) (k1 : (x.kind.toList == [115, 101, 110, 100]) = false) (k2 : (x.kind.toList == [114, 101, 99, 101, 105, 118, 101]) = false) (k3 : (x.kind.toList == [97, 99, 107]) = false) (k4 : (x.kind.toList == [119, 97, 105, 116]) = false) (k5 : (x.kind.toList == [102, 105, 110, 100]) = false) (k6 : (x.kind.toList == [112, 117, 116]) = false) (k7 : (x.kind.toList == [100, 101, 108, 101, 116, 101]) = false) (k8 : (x.kind.toList == [103, 101, 116]) = false) (k9 : (x.kind.toList == [115, 99, 97, 110]) = true) :
    Does Tryz.prog 40 #[.pointer (some ⟨q, 0, none⟩), .pointer (some ⟨mq, 0, none⟩), x.v] [ViewR q p since C R, VerR p nn V, RViewR mq since ra rc rows C R, .imm φ] (fun _ : Unit => (.bool true, [ViewR q p since C (scnB (inR x.span.lo x.span.hi (C.foldl appR rows)) R x.span.lo x.span.hi x.a), VerR p nn V, RViewR mq since ra rc rows C (scnB (inR x.span.lo x.span.hi (C.foldl appR rows)) R x.span.lo x.span.hi x.a), .imm φ])) := by
  have hc12 := hI.c12
  have hr40 := hI.r40
  have hrl := hs.qr.len
  have HSC := vwScan_does q p since nn V C R x.span.lo x.span.hi x.a _ (hs.scan C _ _) hs.nd (by omega) (by omega) hs.vl hs.v1 (seen_keys hs.qr hI _ _)
  have HRS := rscan_does mq since ra rc rows C R x.span.lo x.span.hi x.a _ rfl (by omega) (by omega) (by omega) (seen_keys hs.qr hI _ _)
  have HS := same_ok (scnN (inR x.span.lo x.span.hi (C.foldl appR rows)) R x.span.lo x.span.hi x.a) (scnN_le _ _ _ _ _)
  have HLN := scnO_len (inR x.span.lo x.span.hi (C.foldl appR rows)) R x.span.lo x.span.hi x.a
  have HLR := inR_len rows C x.span.lo x.span.hi
  have HSR := fun (a1 a2 : Option Addr) (c1 c2 : Nat) w => sameRows_any a1 a2 (scnO (inR x.span.lo x.span.hi (C.foldl appR rows)) R x.span.lo x.span.hi x.a).length c1 c2 (scnO (inR x.span.lo x.span.hi (C.foldl appR rows)) R x.span.lo x.span.hi x.a) w rfl (by omega)
  clear HLN HLR
  generalize inR x.span.lo x.span.hi (C.foldl appR rows) = L at *
  generalize scnO L R x.span.lo x.span.hi x.a = O at *
  generalize scnN L R x.span.lo x.span.hi x.a = N at *
  generalize scnB L R x.span.lo x.span.hi x.a = R' at *
  generalize errV N = ev at *
  obtain ⟨xkind, xA, xB, xC, xK, xS, xT, xcp, xcc, xch, xsp, xsc, xspn⟩ := x
  unfold Ac.v
  unfold Ac.span at *
  dsimp only at *
  clear hs hI
  cases xspn with
  | nil =>
    dsimp only [List.headD] at HSC HRS
    intro S W w L0 hO; simp only [CA] at hO
    ((try clear hf); have hf := fa_ hO)
    go_enter Tryz.func40, Tryz.ntmps40
    go_wp2_with (first | (go_at_call 23; (with_reducible apply Does.use hO (HSC); (focus exact tk_); clear hO; intro x9 w9 hO; dsimp only at hO ⊢; simp only [CA] at hO; ((try clear hf); have hf := fa_ hO); (obtain ⟨za, zc⟩ := x9; dsimp only at hO ⊢; ((try clear hf); have hf := fa_ hO)))) | (go_at_call 24; (with_reducible apply Does.use hO (HRS); (focus exact tk_); clear hO; intro x9 w9 hO; dsimp only at hO ⊢; simp only [CA] at hO; ((try clear hf); have hf := fa_ hO); (obtain ⟨ya, yc⟩ := x9; dsimp only at hO ⊢; ((try clear hf); have hf := fa_ hO)))) | (go_at_call 19; (with_reducible apply Calls.mono (HS _); rintro e8 w8 ⟨rfl, rfl⟩; dsimp only)) | (go_at_call 25; (with_reducible apply Calls.mono (HSR _ _ _ _ _ (rowV (hO.factOf (r := Row2 80 2 za O.length zc (O.flatMap rwC)) pk_)) (Own.immOf (φ := fun w => ValsAt w ya (O.flatMap rwC)) hO pk_)); rintro e8 w8 ⟨rfl, hx8⟩; replace hO := hO.ext hx8; clear hx8; dsimp only; ((try clear hf); have hf := fa_ hO))) | ((refine sy_ hO ?_); clear hO; intro w9 hO; (try dsimp only [List.set] at hO); ((try clear hf); have hf := fa_ hO)))
    go_ret
    refine ⟨(), rfl, ?_⟩
    (try simp only [CA])
    exact hO.cut sb_
  | cons y ys =>
    obtain ⟨ylo, yhi⟩ := y
    dsimp only [List.headD] at HSC HRS
    intro S W w L0 hO; simp only [CA] at hO
    rcases (hsp _ (Own.immOf (φ := φ) hO pk_)).1 with h0 | ⟨b3, o3, rfl, _⟩
    · cases h0
    have hsp0 := fun w (h : φ w) => show w.cell? ⟨b3, o3 + 0 * 2, none⟩ = some (.string ylo) ∧ w.cell? ⟨b3, o3 + 0 * 2 + 1, none⟩ = some (.string yhi) from by
      rcases (hsp w h).1 with h0 | ⟨b', off', he, hc⟩
      · cases h0
      · simp only [Option.some.injEq, Addr.mk.injEq, and_true] at he
        obtain ⟨rfl, rfl⟩ := he
        exact hc 0 (by simp)
    simp only [Nat.zero_mul, Nat.add_zero] at hsp0
    have hO := (hO.pick (r := .imm φ) pk_).again.imp (ψ := fun w => w.cell? ⟨b3, o3, none⟩ = some (.string ylo) ∧ w.cell? ⟨b3, o3 + 1, none⟩ = some (.string yhi)) fun w h => hsp0 w h
    have hle : ys.length + 1 ≤ 9223372036854775807 := by
      have := (hsp _ (Own.immOf (φ := φ) hO pk_)).2
      unfold maxLen at this
      simp only [List.length_cons] at this
      omega
    clear hsp0 hsp
    simp only [List.length_cons] at hO ⊢
    generalize ys.length = yn at *
    ((try clear hf); have hf := fa_ hO)
    go_enter Tryz.func40, Tryz.ntmps40
    go_wp2_with (first | (go_at_call 23; (with_reducible apply Does.use hO (HSC); (focus exact tk_); clear hO; intro x9 w9 hO; dsimp only at hO ⊢; simp only [CA] at hO; ((try clear hf); have hf := fa_ hO); (obtain ⟨za, zc⟩ := x9; dsimp only at hO ⊢; ((try clear hf); have hf := fa_ hO)))) | (go_at_call 24; (with_reducible apply Does.use hO (HRS); (focus exact tk_); clear hO; intro x9 w9 hO; dsimp only at hO ⊢; simp only [CA] at hO; ((try clear hf); have hf := fa_ hO); (obtain ⟨ya, yc⟩ := x9; dsimp only at hO ⊢; ((try clear hf); have hf := fa_ hO)))) | (go_at_call 19; (with_reducible apply Calls.mono (HS _); rintro e8 w8 ⟨rfl, rfl⟩; dsimp only)) | (go_at_call 25; (with_reducible apply Calls.mono (HSR _ _ _ _ _ (rowV (hO.factOf (r := Row2 80 2 za O.length zc (O.flatMap rwC)) pk_)) (Own.immOf (φ := fun w => ValsAt w ya (O.flatMap rwC)) hO pk_)); rintro e8 w8 ⟨rfl, hx8⟩; replace hO := hO.ext hx8; clear hx8; dsimp only; ((try clear hf); have hf := fa_ hO))) | ((refine sy_ hO ?_); clear hO; intro w9 hO; (try dsimp only [List.set] at hO); ((try clear hf); have hf := fa_ hO)))
    go_ret
    refine ⟨(), rfl, ?_⟩
    (try simp only [CA])
    exact hO.cut sb_
set_option maxHeartbeats 8000000 in
set_option maxRecDepth 100000 in
theorem turn_messages (q p since nn : Nat) (V : List (ByteArray × List Vn)) (rows : List Rw) (hs : Seen V since rows) (C : List Ch) (R : List Sp) (hI : QInv C R) (mq : Nat) (ra : Option Addr) (rc : Nat) (x : Ac) (hxs : x.s.size ≤ 120) (hxt : x.t.size ≤ 100) {φ : World → Prop} (hφ : ∀ w, φ w → LibOk w) (k0 : (x.kind.toList == [99, 114, 101, 97, 116, 101]) = false) (k1 : (x.kind.toList == [115, 101, 110, 100]) = false) (k2 : (x.kind.toList == [114, 101, 99, 101, 105, 118, 101]) = false) (k3 : (x.kind.toList == [97, 99, 107]) = false) (k4 : (x.kind.toList == [119, 97, 105, 116]) = false) (k5 : (x.kind.toList == [102, 105, 110, 100]) = false) (k6 : (x.kind.toList == [112, 117, 116]) = false) (k7 : (x.kind.toList == [100, 101, 108, 101, 116, 101]) = false) (k8 : (x.kind.toList == [103, 101, 116]) = false) (k9 : (x.kind.toList == [115, 99, 97, 110]) = false) :
    Does Tryz.prog 40 #[.pointer (some ⟨q, 0, none⟩), .pointer (some ⟨mq, 0, none⟩), x.v] [ViewR q p since C R, VerR p nn V, RViewR mq since ra rc rows C R, .imm φ] (fun _ : Unit => (.bool true, [ViewR q p since C (msgsA rows C R x.s).2.2, VerR p nn V, RViewR mq since ra rc rows C (msgsA rows C R x.s).2.2, .imm φ])) := by
  have hc12 := hI.c12
  have hr40 := hI.r40
  have hrl := hs.qr.len
  have HC := qMessages_does q p since nn V rows hs C R x.s hI (by omega) hφ
  have HQ := rMessages_does mq since ra rc rows hs.qr C R x.s hI (by omega)
  have HS := same_ok (msgsA rows C R x.s).2.1 (msgsA_le _ _ _ _)
  have HLN := msgsA_len rows C R x.s
  have HSM := fun (a1 a2 : Option Addr) (c1 c2 : Nat) w => sameMs_any a1 a2 (msgsA rows C R x.s).1.length c1 c2 (msgsA rows C R x.s).1 w rfl (by omega)
  clear HLN
  generalize msgsA rows C R x.s = y at *
  obtain ⟨O, N, R'⟩ := y
  dsimp only at HC HQ HS HSM ⊢
  generalize errV N = ev at *
  obtain ⟨xkind, xA, xB, xC, xK, xS, xT, xcp, xcc, xch, xsp, xsc, xspn⟩ := x
  unfold Ac.v
  dsimp only at *
  clear hs hI
  intro S W w L0 hO; simp only [CA] at hO
  ((try clear hf); have hf := fa_ hO)
  go_enter Tryz.func40, Tryz.ntmps40
  go_wp2_with (first | (go_at_call 57; (with_reducible apply Does.use hO (HC); (focus exact tk_); clear hO; intro x9 w9 hO; dsimp only at hO ⊢; simp only [CA] at hO; ((try clear hf); have hf := fa_ hO); (obtain ⟨za, zc⟩ := x9; dsimp only at hO ⊢; ((try clear hf); have hf := fa_ hO)))) | (go_at_call 117; (with_reducible apply Does.use hO (HQ); (focus exact tk_); clear hO; intro x9 w9 hO; dsimp only at hO ⊢; simp only [CA] at hO; ((try clear hf); have hf := fa_ hO); (obtain ⟨ya, yc⟩ := x9; dsimp only at hO ⊢; ((try clear hf); have hf := fa_ hO)))) | (go_at_call 19; (with_reducible apply Calls.mono (HS _); rintro e8 w8 ⟨rfl, rfl⟩; dsimp only)) | (go_at_call 118; (with_reducible apply Calls.mono (HSM _ _ _ _ _ (rowV (hO.factOf (r := Row2 104 4 za O.length zc (O.flatMap msC)) pk_)) (Own.immOf (φ := fun w => ValsAt w ya (O.flatMap msC)) hO pk_)); rintro e8 w8 ⟨rfl, hx8⟩; replace hO := hO.ext hx8; clear hx8; dsimp only; ((try clear hf); have hf := fa_ hO))) | ((refine sy_ hO ?_); clear hO; intro w9 hO; (try dsimp only [List.set] at hO); ((try clear hf); have hf := fa_ hO)))
  go_ret
  refine ⟨(), rfl, ?_⟩
  (try simp only [CA])
  exact hO.cut sb_
/-- A turn, whichever. -/
theorem turn_does (q p since nn : Nat) (V : List (ByteArray × List Vn)) (rows : List Rw) (hs : Seen V since rows) (C : List Ch) (R : List Sp) (hI : QInv C R) (mq : Nat) (ra : Option Addr) (rc : Nat) (x : Ac) (hxs : x.s.size ≤ 120) (hxt : x.t.size ≤ 100) {φ : World → Prop} (hφ : ∀ w, φ w → LibOk w) (hsp : ∀ w, φ w → SpansAt w x.sp x.spn ∧ x.spn.length ≤ maxLen) :
    Does Tryz.prog 40 #[.pointer (some ⟨q, 0, none⟩), .pointer (some ⟨mq, 0, none⟩), x.v] [ViewR q p since C R, VerR p nn V, RViewR mq since ra rc rows C R, .imm φ] (fun y : {y : List Ch × List Sp // QInv y.1 y.2} => (.bool true, [ViewR q p since y.1.1 y.1.2, VerR p nn V, RViewR mq since ra rc rows y.1.1 y.1.2, .imm φ])) := by
  cases k0 : (x.kind.toList == [99, 114, 101, 97, 116, 101]) with
  | true =>
    exact (turn_create q p since nn V rows hs C R hI mq ra rc x hxs hxt hφ k0).wit fun _ => ⟨⟨(_, _), hI.create _ _ _ _⟩, rfl⟩
  | false =>
    cases k1 : (x.kind.toList == [115, 101, 110, 100]) with
    | true =>
      exact (turn_send q p since nn V rows hs C R hI mq ra rc x hxs hxt hφ k0 k1).wit fun _ => ⟨⟨(_, _), hI.Send _ _ _ _⟩, rfl⟩
    | false =>
      cases k2 : (x.kind.toList == [114, 101, 99, 101, 105, 118, 101]) with
      | true =>
        obtain ⟨res, hr, hi⟩ := recvA_ex x.s x.a x.b hs.qr hI
        exact (turn_receive q p since nn V rows hs C R hI mq ra rc x hxs hxt hφ res hr k0 k1 k2).wit fun _ => ⟨⟨(_, _), hi⟩, rfl⟩
      | false =>
        cases k3 : (x.kind.toList == [97, 99, 107]) with
        | true =>
          exact (turn_ack q p since nn V rows hs C R hI mq ra rc x hxs hxt hφ k0 k1 k2 k3).wit fun _ => ⟨⟨(_, _), hI.ack _ _ _ _⟩, rfl⟩
        | false =>
          cases k4 : (x.kind.toList == [119, 97, 105, 116]) with
          | true =>
            exact (turn_wait q p since nn V rows hs C R hI mq ra rc x hxs hxt hφ k0 k1 k2 k3 k4).wit fun _ => ⟨⟨(_, _), hI.wait _ _ _ _ _⟩, rfl⟩
          | false =>
            cases k5 : (x.kind.toList == [102, 105, 110, 100]) with
            | true =>
              exact (turn_find q p since nn V rows hs C R hI mq ra rc x hxs hxt hφ k0 k1 k2 k3 k4 k5).wit fun _ => ⟨⟨(_, _), hI.find _⟩, rfl⟩
            | false =>
              cases k6 : (x.kind.toList == [112, 117, 116]) with
              | true =>
                exact (turn_put q p since nn V rows hs C R hI mq ra rc x hxs hxt hφ k0 k1 k2 k3 k4 k5 k6).wit fun _ => ⟨⟨(_, _), hI.put _⟩, rfl⟩
              | false =>
                cases k7 : (x.kind.toList == [100, 101, 108, 101, 116, 101]) with
                | true =>
                  exact (turn_delete q p since nn V rows hs C R hI mq ra rc x hxs hxt hφ k0 k1 k2 k3 k4 k5 k6 k7).wit fun _ => ⟨⟨(_, _), hI.put _⟩, rfl⟩
                | false =>
                  cases k8 : (x.kind.toList == [103, 101, 116]) with
                  | true =>
                    exact (turn_get q p since nn V rows hs C R hI mq ra rc x hxs hxt hφ k0 k1 k2 k3 k4 k5 k6 k7 k8).wit fun _ => ⟨⟨(_, _), hI.get _⟩, rfl⟩
                  | false =>
                    cases k9 : (x.kind.toList == [115, 99, 97, 110]) with
                    | true =>
                      exact (turn_scan q p since nn V rows hs C R hI mq ra rc x hxs hxt hφ hsp k0 k1 k2 k3 k4 k5 k6 k7 k8 k9).wit fun _ => ⟨⟨(_, _), hI.scan _ _ _ _⟩, rfl⟩
                    | false =>
                      exact (turn_messages q p since nn V rows hs C R hI mq ra rc x hxs hxt hφ k0 k1 k2 k3 k4 k5 k6 k7 k8 k9).wit fun _ => ⟨⟨(_, _), hI.msgs _ _⟩, rfl⟩
end Go.Proofs.YtmknhibaoopjjaaGreatDoor
namespace Go.Proofs.YtmknhibaoopjjaaGreatDoor
open Go.RowKit
theorem itoaB_inj {a b : Nat} (h : itoaB a = itoaB b) : a = b := by
  have h2 := congrArg (fun s : ByteArray => valL s.data.toList) h
  simp only [itoaB_list, valL_dec] at h2
  exact h2
theorem rowS_inj {a b a' b' : Nat} {d d' : ByteArray} (h : rowS a b d = rowS a' b' d') : a = a' ∧ b = b' ∧ d = d' := by
  have h1 := split2_row a b d
  rw [h, split2_row] at h1
  injection h1 with e1 h1
  injection h1 with e2 h1
  injection h1 with e3 _
  exact ⟨(itoaB_inj e1).symm, (itoaB_inj e2).symm, e3.symm⟩
theorem Qu.txt_ok {u : Qu} (h : u.ok) : u.txt = (rowS u.next.toNat u.tries.toNat u.dead, 0) := by
  unfold Qu.txt; rw [if_neg h.1, if_pos h.2]
theorem Ms.txt_ok {m : Ms} (h : ¬ m.bad) : m.txt = (rowS m.tries.toNat m.until_.toNat m.body, 0) := by
  unfold Ms.txt; rw [if_neg h]
theorem quOf_txt {u : Qu} (h : u.ok) : quOf u.txt.1 = (u, 0) := by
  rw [Qu.txt_ok h]
  have hb := h.1
  unfold Qu.bad at hb
  rcases quOf_cases (rowS u.next.toNat u.tries.toNat u.dead) with ⟨q, hq, hok, _, a, b, ha, hb2, hr⟩ | ⟨_, hn⟩
  · rw [hq]
    obtain ⟨e1, e2, e3⟩ := rowS_inj hr.1
    obtain ⟨q1, q2, q3⟩ := q
    obtain ⟨u1, u2, u3⟩ := u
    dsimp only at *
    subst ha hb2 e3
    have h1 : (a : Int) = u1 := by omega
    have h2 : (b : Int) = u2 := by omega
    rw [h1, h2]
  · refine absurd ⟨_, _, _, rfl, ?_⟩ hn
    refine ⟨by omega, by omega, by omega, h.2⟩
theorem msOf_txt {m : Ms} (h : ¬ m.bad) : msOf m.num m.txt.1 = (m, 0) := by
  rw [Ms.txt_ok h]
  have hb := h
  unfold Ms.bad at hb
  rcases msOf_cases m.num (rowS m.tries.toNat m.until_.toNat m.body) with ⟨q, hq, hn, _, a, b, ha, hb2, hr⟩ | ⟨_, hn⟩
  · rw [hq]
    obtain ⟨e1, e2, e3⟩ := rowS_inj hr.1
    obtain ⟨q0, q1, q2, q3⟩ := q
    obtain ⟨u0, u1, u2, u3⟩ := m
    dsimp only at *
    subst ha hb2 e3 hn
    have h1 : (a : Int) = u1 := by omega
    have h2 : (b : Int) = u2 := by omega
    rw [h1, h2]
  · refine absurd ⟨_, _, _, rfl, ?_⟩ hn
    refine ⟨by omega, by omega, by omega⟩
theorem Qu.txt40 {u : Qu} (h : u.ok) : u.txt.1.size ≤ 40 := by
  rw [Qu.txt_ok h]
  have hb := h.1
  unfold Qu.bad at hb
  have h1 := itoaB_size 5 u.next.toNat (by omega)
  have h2 := itoaB_size 0 u.tries.toNat (by omega)
  have h3 : u.dead.size ≤ 6 := by
    rcases h.2 with h3 | h3
    · omega
    · exact h3.2.1
  have := rowS_size u.next.toNat u.tries.toNat u.dead
  dsimp only
  omega
theorem Ms.txt40 {m : Ms} (h : ¬ m.bad) : m.txt.1.size ≤ 40 := by
  rw [Ms.txt_ok h]
  unfold Ms.bad at h
  have h1 := itoaB_size 0 m.tries.toNat (by omega)
  have h2 := itoaB_size 6 m.until_.toNat (by omega)
  have := rowS_size m.tries.toNat m.until_.toNat m.body
  dsimp only
  omega
theorem chN_put {k v : ByteArray} (hk : KeyOk k) (hv : v.size ≤ 40) : chN ⟨k, v, false⟩ = 0 := by
  unfold chN; rw [if_pos hk, if_neg (fun h => by cases h.1), if_neg (by dsimp only; omega)]
theorem chN_del {k : ByteArray} (hk : KeyOk k) : chN ⟨k, ⟨#[]⟩, true⟩ = 0 := by
  unfold chN; rw [if_pos hk, if_neg (fun h => h.2 rfl), if_neg (by show ¬ 40 < 0; omega)]
/-- At most as many as there may be. -/
theorem nodup_len {α : Type} [DecidableEq α] : ∀ (l K : List α), l.Nodup → (∀ x ∈ l, x ∈ K) → l.length ≤ K.length
  | [], _, _, _ => Nat.zero_le _
  | x :: l, K, h, hk => by
    obtain ⟨h1, h2⟩ := List.nodup_cons.1 h
    have h3 := nodup_len l (K.erase x) h2 fun y hy => (List.mem_erase_of_ne (fun e : y = x => h1 (by rw [← e]; exact hy))).2 (hk y (List.mem_cons_of_mem _ hy))
    have h4 := List.length_erase_of_mem (hk x (List.mem_cons_self ..))
    have h5 := List.length_pos_of_mem (hk x (List.mem_cons_self ..))
    rw [List.length_cons]
    omega
theorem Ups.nodup {C : List Ch} (h : Ups C) : (C.map Ch.key).Nodup := by
  rw [List.nodup_iff_pairwise_ne, List.pairwise_map]
  exact h.imp fun h => slt_ne h
/-- A deed over rows: its changes are of certain keys, what it sees is D, at most r spans were read. -/
structure Deed (rows : List Rw) (K : List ByteArray) (D : List Rw) (r : Nat) (C : List Ch) (R : List Sp) : Prop where
  inv : QInv C R
  keys : ∀ c ∈ C, c.key ∈ K
  see : C.foldl appR rows = D
  read : R.length ≤ r
theorem valR_apps {k : ByteArray} : ∀ {C : List Ch} {l : List Rw}, Ups C → RUps l → valR (C.foldl appR l) k = match findC C k with | some c => (if c.gone then (⟨#[]⟩, false) else (c.val, true)) | none => valR l k
  | [], _, _, _ => rfl
  | c :: C, l, hU, hl => by
    obtain ⟨h1, h2⟩ := List.pairwise_cons.1 hU
    have ih := valR_apps (k := k) (C := C) (l := appR l c) h2 (appF_ups hl)
    rw [List.foldl_cons, ih]
    unfold findC
    rw [List.find?_cons, valR_app hl]
    by_cases hk : c.key = k
    · have hn : C.find? (fun x => decide (x.key = k)) = none := List.find?_eq_none.2 fun x hx h => by
        have := slt_ne (h1 x hx)
        rw [hk, of_decide_eq_true h] at this
        exact this rfl
      rw [hn, if_pos hk, decide_eq_true hk]
    · rw [if_neg hk, decide_eq_false hk]
theorem apps_put {c : Ch} : ∀ {C : List Ch} {l : List Rw}, Ups C → RUps l → (putC C c).foldl appR l = appR (C.foldl appR l) c := by
  intro C l hU hl
  have h1 : RUps ((putC C c).foldl appR l) := apps_ups hl
  have h0 : RUps (C.foldl appR l) := apps_ups hl
  refine RUps.ext h1 (appF_ups h0) fun r => ?_
  have hv : ∀ (E : List Rw), RUps E → (r ∈ E ↔ valR E r.key = (r.val, true)) := fun E hE => by
    unfold valR
    constructor
    · intro hr
      have hf : E.find? (fun x => decide (x.key = r.key)) = some r := by
        cases hf : E.find? (fun x => decide (x.key = r.key)) with
        | none => exact absurd (List.find?_eq_none.1 hf r hr) (by simp)
        | some y =>
          have h2 : decide (y.key = r.key) = true := List.find?_some (p := fun x : Rw => decide (x.key = r.key)) hf
          have h3 := List.mem_of_find?_eq_some hf
          rw [hE.inj h3 hr (of_decide_eq_true h2)]
      rw [hf]
    · cases hf : E.find? (fun x => decide (x.key = r.key)) with
      | none => intro h; simp at h
      | some y =>
        intro h
        have h2 : decide (y.key = r.key) = true := List.find?_some (p := fun x : Rw => decide (x.key = r.key)) hf
        have h3 := List.mem_of_find?_eq_some hf
        have h4 : y.val = r.val := by injection h
        have : y = r := by
          obtain ⟨a, b⟩ := y
          obtain ⟨a', b'⟩ := r
          dsimp only at *
          rw [of_decide_eq_true h2, h4]
        rw [← this]; exact h3
  rw [hv _ h1, valR_apps (hU.put c) hl, hv (appR (C.foldl appR l) c) (appF_ups h0), valR_app h0, valR_apps hU hl]
  by_cases hk : c.key = r.key
  · rw [if_pos hk, ← hk, find_put]
  · rw [if_neg hk, find_put_other (fun e => hk e.symm)]
/-! One step after the other. -/
theorem noteN_free {R : List Sp} (s : Sp) (h : R.length < 40) : noteN R s = 0 := by
  unfold noteN
  split
  · rfl
  · rw [if_neg (by omega)]
theorem noteR_one (R : List Sp) (s : Sp) : (noteR R s).length ≤ R.length + 1 := by
  unfold noteR
  split
  · omega
  · split
    · omega
    · rw [List.length_append, List.length_singleton]; omega
theorem getB_one (C : List Ch) (R : List Sp) (k : ByteArray) : (getB C R k).length ≤ R.length + 1 := by
  unfold getB
  split
  · omega
  · split
    · omega
    · exact noteR_one _ _
variable {rows : List Rw} {K : List ByteArray} {D : List Rw} {r : Nat} {C : List Ch} {R : List Sp}
theorem Deed.more {r' : Nat} (h : Deed rows K D r C R) (hr : r ≤ r') : Deed rows K D r' C R := ⟨h.inv, h.keys, h.see, Nat.le_trans h.read hr⟩
theorem Deed.get_val (hr : QRows rows) (h : Deed rows K D r C R) {k : ByteArray} (hk : KeyOk k) (hl : r < 40) : getG (valR rows k) C R k = ((valR D k).1, (valR D k).2, 0) := by
  have hd := valR_apps (k := k) h.inv.ups hr.ups
  rw [h.see] at hd
  have h1 := h.read
  unfold getG
  rw [if_neg (by rw [keyN_yes hk]; simp)]
  cases hf : findC C k with
  | none => rw [hf] at hd; dsimp only at hd ⊢; rw [if_neg (by rw [noteN_free _ (by omega)]; simp), hd]
  | some c =>
    rw [hf] at hd
    dsimp only at hd ⊢
    cases hg : c.gone with
    | false => rw [hg] at hd; rw [hd]; rfl
    | true => rw [hg] at hd; rw [hd, chN_val (h.inv.good c (find_some_key hf).1) hg]; rfl
theorem Deed.get (h : Deed rows K D r C R) (k : ByteArray) : Deed rows K D (r + 1) C (getB C R k) :=
  ⟨h.inv.reads (getB_len h.inv.r40), h.keys, h.see, by have := h.read; have := getB_one C R k; omega⟩
theorem Deed.find_reads (h : Deed rows K D r C R) (name : ByteArray) : Deed rows K D (r + 1) C (findR C R name) := by
  unfold findR
  split
  · exact h.more (by omega)
  · exact h.get _
theorem Deed.find_yes (hr : QRows rows) (h : Deed rows K D r C R) {name : ByteArray} {u : Qu} (hn : NameOk name) (hv : valR D (queB name) = (u.txt.1, true)) (hu : u.ok) (hl : r < 40) : findN (valR rows (queB name)) C R name = (u, 0) := by
  unfold findN
  rw [if_neg (by simpa using hn), h.get_val hr (que_ok hn) hl, hv]
  dsimp only
  rw [if_neg (by simp), if_neg (by simp), quOf_txt hu]
theorem Deed.find_no (hr : QRows rows) (h : Deed rows K D r C R) {name : ByteArray} (hn : NameOk name) (hv : (valR D (queB name)).2 = false) (hl : r < 40) : findN (valR rows (queB name)) C R name = (Qu.z, 5) := by
  unfold findN
  rw [if_neg (by simpa using hn), h.get_val hr (que_ok hn) hl]
  dsimp only
  rw [if_neg (by simp), if_pos hv]
theorem Deed.put (hr : QRows rows) (h : Deed rows K D r C R) {c : Ch} (hc : chN c = 0) (hk : c.key ∈ K) (hK : K.length ≤ 12) : putN C c = 0 ∧ Deed rows K (appR D c) r (putL C c) R := by
  have hm : ∀ x ∈ putC C c, x.key ∈ K := fun x hx => by
    rcases mem_put hx with rfl | hx
    · exact hk
    · exact h.keys x hx
  have hlen : (putC C c).length ≤ 12 := by
    have := nodup_len ((putC C c).map Ch.key) K (h.inv.ups.put c).nodup fun k hk => by
      obtain ⟨x, hx, rfl⟩ := List.mem_map.1 hk
      exact hm x hx
    rw [List.length_map] at this
    omega
  have h0 : putN C c = 0 := by
    unfold putN
    rw [if_neg (by rw [hc]; simp), if_neg (by omega)]
  have e : putL C c = putC C c := by unfold putL; rw [if_pos h0]
  refine ⟨h0, h.inv.put c, ?_, ?_, h.read⟩
  · rw [e]; exact hm
  · rw [e, apps_put h.inv.ups hr.ups, h.see]
theorem Deed.putq (hr : QRows rows) (h : Deed rows K D r C R) {name : ByteArray} {u : Qu} (hn : NameOk name) (hu : u.ok) (hk : queB name ∈ K) (hK : K.length ≤ 12) : putqN C name u = 0 ∧ Deed rows K (appR D ⟨queB name, u.txt.1, false⟩) r (putqL C name u) R := by
  have h2 : u.txt.2 = 0 := by rw [Qu.txt_ok hu]
  obtain ⟨p1, p2⟩ := h.put (c := ⟨queB name, u.txt.1, false⟩) hr (chN_put (que_ok hn) (Qu.txt40 hu)) hk hK
  unfold putqN putqL
  rw [if_neg (by omega), if_neg (by omega)]
  exact ⟨p1, p2⟩
theorem Deed.set (hr : QRows rows) (h : Deed rows K D r C R) {name : ByteArray} {m : Ms} {n : Nat} (hn : NameOk name) (hm : ¬ m.bad) (hnum : m.num = n) (hn6 : n < 1000000) (hk : msgB name n ∈ K) (hK : K.length ≤ 12) : setN C name m = 0 ∧ Deed rows K (appR D ⟨msgB name n, m.txt.1, false⟩) r (setL C name m) R := by
  have h2 : m.txt.2 = 0 := by rw [Ms.txt_ok hm]
  obtain ⟨p1, p2⟩ := h.put (c := ⟨msgB name n, m.txt.1, false⟩) hr (chN_put (msg_ok hn hn6) (Ms.txt40 hm)) hk hK
  unfold setN setL
  rw [if_neg (by omega), if_neg (by omega), show m.num.toNat = n from by rw [hnum]; rfl]
  exact ⟨p1, p2⟩
theorem Deed.gone (hr : QRows rows) (h : Deed rows K D r C R) {name : ByteArray} {n : Nat} (hn : NameOk name) (hn6 : n < 1000000) (hk : msgB name n ∈ K) (hK : K.length ≤ 12) : putN C ⟨msgB name n, ⟨#[]⟩, true⟩ = 0 ∧ Deed rows K (appR D ⟨msgB name n, ⟨#[]⟩, true⟩) r (putL C ⟨msgB name n, ⟨#[]⟩, true⟩) R :=
  h.put hr (chN_del (msg_ok hn hn6)) hk hK
theorem Deed.create (hr : QRows rows) (h : Deed rows K D r C R) {name : ByteArray} {tries : Int} (hn : NameOk name) (hv : (valR D (queB name)).2 = false) (ht : 1 ≤ tries ∧ tries ≤ 9) (hk : queB name ∈ K) (hK : K.length ≤ 12) (hl : r < 40) :
    ∃ C' R', createA (valR rows) C R name tries ⟨#[]⟩ = (0, C', R') ∧ Deed rows K (appR D ⟨queB name, (Qu.txt ⟨0, tries, ⟨#[]⟩⟩).1, false⟩) (r + 1) C' R' := by
  have hu : Qu.ok ⟨0, tries, ⟨#[]⟩⟩ := ⟨by unfold Qu.bad; dsimp only; omega, .inl rfl⟩
  obtain ⟨p1, p2⟩ := (h.find_reads name).putq hr hn hu hk hK
  refine ⟨putqL C name ⟨0, tries, ⟨#[]⟩⟩, findR C R name, ?_, p2⟩
  unfold createA
  rw [h.find_no hr hn hv hl]
  dsimp only
  have hne : ¬ (⟨#[]⟩ : ByteArray) = name := fun e => by have := hn.1; rw [← e] at this; exact absurd this (by decide)
  rw [if_neg (by simp), if_neg (by simp), if_neg hne, if_pos rfl, p1]
def Qu.up (u : Qu) : Qu := ⟨u.next + 1, u.tries, u.dead⟩
theorem Deed.sendA (hr : QRows rows) (h : Deed rows K D r C R) {name body : ByteArray} {u : Qu} {til : Int} {n : Nat} (hn : NameOk name) (hu : u.ok) (hnx : u.next = n) (hn6 : n < 999999) (hb : body.size ≤ 28) (ht : 0 ≤ til ∧ til ≤ 2000000) (hk : queB name ∈ K) (hk2 : msgB name n ∈ K) (hK : K.length ≤ 12) :
    ∃ C', sendA C name u body til = ((n : Int), 0, C') ∧ Deed rows K (appR (appR D ⟨msgB name n, (Ms.txt ⟨n, 0, til, body⟩).1, false⟩) ⟨queB name, u.up.txt.1, false⟩) r C' R := by
  have hm : ¬ Ms.bad ⟨0, 0, til, body⟩ := by unfold Ms.bad; dsimp only; omega
  have hm2 : (Ms.txt ⟨0, 0, til, body⟩) = Ms.txt ⟨n, 0, til, body⟩ := rfl
  have h2 : (Ms.txt ⟨0, 0, til, body⟩).2 = 0 := by rw [Ms.txt_ok hm]
  obtain ⟨p1, p2⟩ := h.put (c := ⟨msgB name n, (Ms.txt ⟨0, 0, til, body⟩).1, false⟩) hr (chN_put (msg_ok hn (by omega)) (Ms.txt40 hm)) hk2 hK
  have hu2 : u.up.ok := by
    refine ⟨?_, hu.2⟩
    have := hu.1
    unfold Qu.bad Qu.up at *
    dsimp only
    omega
  obtain ⟨q1, q2⟩ := p2.putq hr hn hu2 hk hK
  refine ⟨_, ?_, q2⟩
  unfold Go.Proofs.YtmknhibaoopjjaaGreatDoor.sendA
  rw [hnx]
  rw [show ((n : Nat) : Int).toNat = n from rfl, if_neg (by omega), if_neg (by omega), if_neg (by rw [p1]; simp)]
  unfold Qu.up at q1
  rw [hnx] at q1
  rw [q1]
  unfold Qu.up
  rw [hnx]
theorem timeN_ok {t : Int} (h : 0 ≤ t ∧ t ≤ 1000000) : timeN [t] = 0 := by
  unfold timeN badT
  rw [if_neg]
  simp
  omega
theorem Deed.send (hr : QRows rows) (h : Deed rows K D r C R) {name body : ByteArray} {u : Qu} {til : Int} {n : Nat} (hn : NameOk name) (hv : valR D (queB name) = (u.txt.1, true)) (hu : u.ok) (hnx : u.next = n) (hn6 : n < 999999) (hb : body.size ≤ 28) (ht : 0 ≤ til ∧ til ≤ 1000000) (hk : queB name ∈ K) (hk2 : msgB name n ∈ K) (hK : K.length ≤ 12) (hl : r < 40) :
    ∃ C', SendA (valR rows (queB name)) C R name body til = ((n : Int), 0, C') ∧ Deed rows K (appR (appR D ⟨msgB name n, (Ms.txt ⟨n, 0, til, body⟩).1, false⟩) ⟨queB name, u.up.txt.1, false⟩) (r + 1) C' (findR C R name) := by
  obtain ⟨C', e, hd⟩ := (h.find_reads name).sendA hr hn hu hnx hn6 hb (by omega : 0 ≤ til ∧ til ≤ 2000000) hk hk2 hK
  refine ⟨C', ?_, hd⟩
  unfold SendA
  rw [h.find_yes hr hn hv hu hl]
  dsimp only
  rw [if_neg (by simp), if_neg (by rw [timeN_ok ht]; simp), e]
  dsimp only
  rw [if_neg (by simp)]
/-- A scan of at most one. -/
theorem Deed.scn (h : Deed rows K D r C R) (L : List Rw) (lo hi : ByteArray) (hl : r < 40) : scnN L R lo hi 1 = 0 ∧ Deed rows K D (r + 1) C (scnB L R lo hi 1) := by
  have h1 := h.read
  constructor
  · unfold scnN; rw [if_neg (by omega)]; exact noteN_free _ (by omega)
  · refine ⟨h.inv.scan _ _ _ _, h.keys, h.see, ?_⟩
    unfold scnB
    rw [if_neg (by omega)]
    have := noteR_one R (scnS L lo hi 1)
    omega
theorem Deed.recv_take (hr : QRows rows) (h : Deed rows K D r C R) {name lo : ByteArray} {u : Qu} {now long : Int} {m : Ms} {n : Nat} {t : List Rw} (hn : NameOk name) (hL : inR lo (hiB name) D = ⟨msgB name n, m.txt.1⟩ :: t) (hm : ¬ m.bad) (hnum : m.num = n) (hn6 : n < 1000000) (hw : m.until_ ≤ now) (ht : m.tries < u.tries) (hm2 : ¬ (m.more (now + long)).bad) (hk : msgB name n ∈ K) (hK : K.length ≤ 12) (hl : r < 40) :
    ∃ C' R', Recv rows name u now long C R lo (m.more (now + long), 0, C', R') ∧ Deed rows K (appR D ⟨msgB name n, (m.more (now + long)).txt.1, false⟩) (r + 1) C' R' := by
  obtain ⟨s1, s2⟩ := h.scn (⟨msgB name n, m.txt.1⟩ :: t) lo (hiB name) hl
  have hp : msOf n m.txt.1 = (m, 0) := by rw [← hnum]; exact msOf_txt hm
  obtain ⟨q1, q2⟩ := s2.set hr hn hm2 (show (m.more (now + long)).num = n from hnum) hn6 hk hK
  refine ⟨_, _, .take (by rw [h.see]; exact hL) s1 hn6 (Ms.txt40 hm) (by rw [hp]) (by rw [hp]; dsimp only; omega) (by rw [hp]; dsimp only; omega) ?_, q2⟩
  rw [hp]
  dsimp only
  rw [q1]
theorem timeN_ok2 {a b : Int} (h : 0 ≤ a ∧ a ≤ 1000000) (h2 : 0 ≤ b ∧ b ≤ 1000000) : timeN [a, b] = 0 := by
  unfold timeN badT
  rw [if_neg]
  simp
  omega
theorem Deed.receive (hr : QRows rows) (h : Deed rows K D r C R) {name : ByteArray} {u : Qu} {now long : Int} {m : Ms} {C' : List Ch} {R' : List Sp} (hn : NameOk name) (hv : valR D (queB name) = (u.txt.1, true)) (hu : u.ok) (h1 : 0 ≤ now ∧ now ≤ 1000000) (h2 : 0 ≤ long ∧ long ≤ 1000000) (hl : r < 40)
    (hrec : Recv rows name u now long C (findR C R name) (loB name) (m, 0, C', R')) : RecvAns rows C R name now long (m, 0, C', R') := by
  have hf := h.find_yes hr hn hv hu hl
  exact .done (by rw [hf]) (timeN_ok2 h1 h2) (by rw [hf]; exact hrec) rfl
end Go.Proofs.YtmknhibaoopjjaaGreatDoor
namespace Go.Proofs.YtmknhibaoopjjaaGreatDoor
open Go.RowKit
def qN : ByteArray := ⟨#[113]⟩
theorem qN_ok : NameOk qN := by decide
theorem slt_heads {a b : ByteArray} {p s t : List UInt8} {x y : UInt8} (ha : a.data.toList = p ++ x :: s) (hb : b.data.toList = p ++ y :: t) (h : x < y) : slt a b = true := by
  unfold slt
  rw [ByteArray.toList_eq, ByteArray.toList_eq, ha, hb, bl_same, bl_cons]
  simp [h]
theorem msgB_list (a : ByteArray) (n : Nat) : (msgB a n).data.toList = 109 :: 47 :: (a.data.toList ++ 47 :: (six n).data.toList) := by
  unfold msgB
  rw [app_data, app_data, app_data, app_data]
  simp only [List.append_assoc]
  rfl
theorem queB_list (a : ByteArray) : (queB a).data.toList = 113 :: 47 :: a.data.toList := by
  unfold queB
  rw [app_data, app_data]
  rfl
theorem hiB_list (a : ByteArray) : (hiB a).data.toList = 109 :: 47 :: (a.data.toList ++ [48]) := by
  unfold hiB
  rw [app_data, app_data, app_data]
  simp only [List.append_assoc]
  rfl
theorem msg_que (a b : ByteArray) (n : Nat) : slt (msgB a n) (queB b) = true := slt_heads (p := []) (msgB_list a n) (queB_list b) (by decide)
theorem hiB_no (a : ByteArray) : (hiB a).toList.isEmpty = false := by rw [ByteArray.toList_eq, hiB_list]; rfl
theorem has_false {lo hi k : ByteArray} (h : slt hi k = true) (hn : hi.toList.isEmpty = false) : hasB lo hi k = false := by
  unfold hasB belowB
  rw [slt_asymm h, hn]
  simp
theorem has_qq (lo a b : ByteArray) : hasB lo (hiB a) (queB b) = false := has_false (slt_heads (p := []) (hiB_list a) (queB_list b) (by decide)) (hiB_no a)
theorem has_q0 (n : Nat) : hasB (loB qN) (hiB qN) (msgB qN n) = true := has_span.2 ((has_msg qN_ok qN_ok n).2 rfl)
theorem appF_skip {c : Ch} {Z : List Rw} : ∀ {A : List Rw} (l : Bool), (∀ a ∈ A, slt a.key c.key = true) → appF c l (A ++ Z) = A ++ appF c l Z
  | [], _, _ => rfl
  | x :: A, l, h => by
    have ih := appF_skip (c := c) (Z := Z) (A := A) l fun a ha => h a (List.mem_cons_of_mem _ ha)
    have hx := h x (List.mem_cons_self ..)
    cases l with
    | false => rw [List.cons_append, appF_lt hx, ih]; rfl
    | true => rw [List.cons_append, appF_tn (slt_ne hx), ih]; rfl
theorem app_ins {c : Ch} {A Z : List Rw} (hg : c.gone = false) (hA : ∀ a ∈ A, slt a.key c.key = true) (hZ : ∀ z ∈ Z, slt c.key z.key = true) : appR (A ++ Z) c = A ++ ⟨c.key, c.val⟩ :: Z := by
  unfold appR
  rw [hg, appF_skip false hA]
  congr 1
  cases Z with
  | nil => rfl
  | cons z Z =>
    have h1 := hZ z (List.mem_cons_self ..)
    rw [appF_gn (slt_asymm h1) (slt_ne h1).symm, appF_id fun r hr => (slt_ne (hZ r (List.mem_cons_of_mem _ hr))).symm]
theorem app_rep {c : Ch} {A Z : List Rw} {r : Rw} (hg : c.gone = false) (hA : ∀ a ∈ A, slt a.key c.key = true) (hr : r.key = c.key) (hZ : ∀ z ∈ Z, slt c.key z.key = true) : appR (A ++ r :: Z) c = A ++ ⟨c.key, c.val⟩ :: Z := by
  unfold appR
  rw [hg, appF_skip false hA, appF_ge (by rw [hr]; exact slt_irrefl _) hr, appF_id fun r hr => (slt_ne (hZ r hr)).symm]
theorem valR_in {A Z : List Rw} {r : Rw} {k : ByteArray} (hr : r.key = k) (hA : ∀ a ∈ A, slt a.key k = true) : valR (A ++ r :: Z) k = (r.val, true) := by
  unfold valR
  rw [List.find?_append, List.find?_eq_none.2 (fun a ha h => slt_ne (hA a ha) (of_decide_eq_true h))]
  rw [List.find?_cons, decide_eq_true hr]
  rfl
theorem QRows.nil : QRows [] := ⟨.nil, fun _ h => (List.not_mem_nil h).elim, Nat.zero_le _⟩
theorem QInv.nil : QInv [] [] := ⟨List.Pairwise.nil, Nat.zero_le _, Nat.zero_le _, fun _ h => (List.not_mem_nil h).elim⟩
theorem Deed.start (rows : List Rw) (K : List ByteArray) : Deed rows K rows 0 [] [] := ⟨QInv.nil, fun _ h => (List.not_mem_nil h).elim, rfl, Nat.le_refl _⟩
/-- A row of a message. -/
def mR (name : ByteArray) (n : Nat) (m : Ms) : Rw := ⟨msgB name n, m.txt.1⟩
def uR (name : ByteArray) (u : Qu) : Rw := ⟨queB name, u.txt.1⟩
/-- Messages, told: of rows that are all messages. -/
theorem Deed.msgs {rows : List Rw} {K : List ByteArray} {D : List Rw} {r : Nat} {C : List Ch} {R : List Sp} (hr : QRows rows) (h : Deed rows K D r C R) {name : ByteArray} {u : Qu} (hn : NameOk name) (hv : valR D (queB name) = (u.txt.1, true)) (hu : u.ok) (l : List (Nat × Ms)) (hL : inR (loB name) (hiB name) D = l.map fun x => mR name x.1 x.2)
    (hl : ∀ x ∈ l, x.1 < 1000000 ∧ x.2.num = x.1 ∧ ¬ x.2.bad) (h53 : l.length ≤ 53) (h40 : r + 1 < 40) :
    ∃ R', msgsA rows C R name = (l.map (·.2), 0, R') ∧ Deed rows K D (r + 2) C R' := by
  have hf := h.find_yes hr hn hv hu (by omega)
  have h1 := h.find_reads name
  have hrd := h1.read
  have s0 : scnN (l.map fun x => mR name x.1 x.2) (findR C R name) (loB name) (hiB name) 53 = 0 := by
    unfold scnN; rw [if_neg (by omega)]; exact noteN_free _ (by omega)
  have hp : ∀ x ∈ l, msR (mR name x.1 x.2) = (x.2, 0) := fun x hx => by
    obtain ⟨a, b, c⟩ := hl x hx
    unfold mR
    rw [msR_msg a rfl, ← b]
    exact msOf_txt c
  have hok : msgsN (l.map fun x => mR name x.1 x.2) = 0 := msgsN_ok fun y hy => by
    obtain ⟨x, hx, rfl⟩ := List.mem_map.1 hy
    rw [hp x hx]
  have ht : (l.map fun x => mR name x.1 x.2).take 53 = l.map fun x => mR name x.1 x.2 := List.take_of_length_le (by rw [List.length_map]; omega)
  refine ⟨scnB (l.map fun x => mR name x.1 x.2) (findR C R name) (loB name) (hiB name) 53, ?_, h1.inv.scan _ _ _ _, h1.keys, h1.see, ?_⟩
  · unfold msgsA
    rw [hf, h.see, hL, s0, ht, hok]
    dsimp only
    rw [if_neg (by simp), if_neg (by simp), if_neg (by simp), List.map_map]
    congr 1
    apply List.map_congr_left
    intro x hx
    show (msR (mR name x.1 x.2)).1 = x.2
    rw [hp x hx]
  · unfold scnB
    rw [if_neg (by omega)]
    have := noteR_one (findR C R name) (scnS (l.map fun x => mR name x.1 x.2) (loB name) (hiB name) 53)
    omega
end Go.Proofs.YtmknhibaoopjjaaGreatDoor
namespace Go.Proofs.YtmknhibaoopjjaaGreatDoor
open Go.RowKit
def hayB : ByteArray := ⟨#[104, 97, 121]⟩
def u0 : Qu := ⟨0, 2, ⟨#[]⟩⟩
def m0 : Ms := ⟨0, 0, 0, hayB⟩
/-- What comes of a queue that is made, of a message that is sent, and received. -/
theorem lines_law : ∃ C1 R1 C2 R2 C3 R3, createA (valR []) [] [] qN 2 ⟨#[]⟩ = (0, C1, R1) ∧ QInv C1 R1 ∧ SendA (valR [] (queB qN)) C1 R1 qN hayB 0 = (0, 0, C2) ∧ findR C1 R1 qN = R2 ∧ QInv C2 R2 ∧ RecvAns [] C2 R2 qN 5 10 (⟨0, 1, 15, hayB⟩, 0, C3, R3) := by
  obtain ⟨C1, R1, e1, d1⟩ := (Deed.start [] [queB qN, msgB qN 0]).create QRows.nil (tries := 2) qN_ok (by rfl) (by omega) (by simp) (by simp) (by omega)
  have f1 : appR [] ⟨queB qN, (Qu.txt u0).1, false⟩ = [uR qN u0] := rfl
  rw [show (Qu.txt ⟨0, 2, ⟨#[]⟩⟩).1 = (Qu.txt u0).1 from rfl, f1] at d1
  have hu0 : u0.ok := ⟨by unfold Qu.bad u0; dsimp only; omega, .inl rfl⟩
  have hu1 : u0.up.ok := ⟨by unfold Qu.bad Qu.up u0; dsimp only; omega, .inl rfl⟩
  obtain ⟨C2, e2, d2⟩ := d1.send QRows.nil (body := hayB) (til := 0) (n := 0) qN_ok (valR_in (A := []) (Z := []) (r := uR qN u0) rfl (fun _ h => (List.not_mem_nil h).elim)) hu0 rfl (by omega) (by decide) (by omega) (by simp) (by simp) (by simp) (by omega)
  have hmq := msg_que qN qN 0
  have f2 : appR [uR qN u0] ⟨msgB qN 0, (Ms.txt m0).1, false⟩ = [mR qN 0 m0, uR qN u0] := app_ins (A := []) (Z := [uR qN u0]) rfl (fun _ h => (List.not_mem_nil h).elim) (fun z hz => by rw [List.mem_singleton.1 hz]; exact hmq)
  have f3 : appR [mR qN 0 m0, uR qN u0] ⟨queB qN, u0.up.txt.1, false⟩ = [mR qN 0 m0, uR qN u0.up] := app_rep (A := [mR qN 0 m0]) (Z := []) (r := uR qN u0) rfl (fun z hz => by rw [List.mem_singleton.1 hz]; exact hmq) rfl (fun _ h => (List.not_mem_nil h).elim)
  rw [show Ms.txt ⟨((0 : Nat) : Int), 0, 0, hayB⟩ = Ms.txt m0 from rfl, f2, f3] at d2
  have hm0 : ¬ m0.bad := by unfold Ms.bad m0; rw [show hayB.size = 3 from rfl]; dsimp only; omega
  have hm1 : ¬ (m0.more (5 + 10)).bad := by unfold Ms.bad Ms.more m0; rw [show hayB.size = 3 from rfl]; dsimp only; omega
  have hL : inR (loB qN) (hiB qN) [mR qN 0 m0, uR qN u0.up] = ⟨msgB qN 0, m0.txt.1⟩ :: [] := by
    unfold inR mR uR
    simp [List.filter, has_q0, has_qq]
  have d3 := d2.find_reads qN
  obtain ⟨C3, R3, e3, d4⟩ := d3.recv_take QRows.nil (u := u0.up) (now := 5) (long := 10) qN_ok hL hm0 rfl (by omega) (by unfold m0; dsimp only; omega) (by unfold m0 Qu.up u0; dsimp only; omega) hm1 (by simp) (by simp) (by omega)
  have hv2 : valR [mR qN 0 m0, uR qN u0.up] (queB qN) = (u0.up.txt.1, true) := valR_in (A := [mR qN 0 m0]) (Z := []) (r := uR qN u0.up) rfl (fun z hz => by rw [List.mem_singleton.1 hz]; exact hmq)
  exact ⟨C1, R1, C2, _, C3, R3, e1, d1.inv, e2, rfl, d2.inv, d2.receive QRows.nil qN_ok hv2 hu1 (by omega) (by omega) (by omega) e3⟩
set_option maxHeartbeats 8000000 in
set_option maxRecDepth 100000 in
theorem lines_any (w : World) (h : LibOk w) : Calls Tryz.prog 39 #[] w fun e w' => e = .returned (.bool true) ∧ Ext w w' := by
  have hO := lib_base h
  have HN := vnew_does none 0 0 [] rfl (by omega) (by simp)
  have HS : ∀ w, Calls Tryz.prog 19 #[.nilIface, .int .i64 0] w fun e w' => e = .returned (.bool true) ∧ w' = w := fun w => same_ok 0 (by omega) w
  have HVN := fun p => vwNew_does p 0 (newV [])
  have hse : Seen (newV []) 0 [] := Seen.new QRows.nil
  obtain ⟨C1, R1, C2, R2, C3, R3, e1, i1, e2, e4, i2, e3⟩ := lines_law
  have HC := fun q p => qCreate_does q p 0 0 (newV []) (valR []) [] [] qN 2 ⟨#[]⟩ hse.rd hse.val (fun _ h => (List.not_mem_nil h).elim) (by decide) (by decide) (by simp) (List.Pairwise.nil) (by simp) hse.v6 (φ := LibOk) fun _ h => h
  rw [e1] at HC
  have HSD := fun q p => qSend_does q p 0 0 (newV []) C1 R1 qN hayB 0 _ (hse.rd _) (hse.val _) i1.val (by decide) (by have := i1.c12; omega) i1.ups i1.r40 hse.v6 (φ := LibOk) fun _ h => h
  rw [e2, e4] at HSD
  have HRC := fun q p => qReceive_does q p 0 0 (newV []) [] hse C2 R2 qN 5 10 _ e3 i2 (by decide) (φ := LibOk) fun _ h => h
  clear e1 e2 e3 e4 i1 i2 hse
  rw [List.flatMap_nil] at HN
  unfold Ms.v at HRC
  dsimp only at HC HSD HRC
  rw [show errV 0 = .nilIface from rfl] at HC HSD HRC
  rw [show qN = ⟨#[113]⟩ from rfl, show hayB = ⟨#[104, 97, 121]⟩ from rfl] at *
  have hO := (hO.nil 80 2).rowIm (.here _ _)
  ((try clear hf); have hf := fa_ hO)
  go_enter Tryz.func39, Tryz.ntmps39
  go_wp2_with (first | (go_at_call 17; (with_reducible apply Does.use hO (HN); (focus exact tk_); clear hO; intro x9 w9 hO; dsimp only at hO ⊢; simp only [CA] at hO; ((try clear hf); have hf := fa_ hO); rename Nat => p)) | (go_at_call 16; (with_reducible apply Does.use hO (HVN _); (focus exact tk_); clear hO; intro x9 w9 hO; dsimp only at hO ⊢; simp only [CA] at hO; ((try clear hf); have hf := fa_ hO); rename Nat => q)) | (go_at_call 54; (with_reducible apply Does.use hO (HC _ _); (focus exact tk_); clear hO; intro x9 w9 hO; dsimp only at hO ⊢; simp only [CA] at hO; ((try clear hf); have hf := fa_ hO))) | (go_at_call 55; (with_reducible apply Does.use hO (HSD _ _); (focus exact tk_); clear hO; intro x9 w9 hO; dsimp only at hO ⊢; simp only [CA] at hO; ((try clear hf); have hf := fa_ hO))) | (go_at_call 56; (with_reducible apply Does.use hO (HRC _ _); (focus exact tk_); clear hO; intro x9 w9 hO; dsimp only at hO ⊢; simp only [CA] at hO; ((try clear hf); have hf := fa_ hO))) | (go_at_call 19; (with_reducible apply Calls.mono (HS _); rintro e8 w8 ⟨rfl, rfl⟩; dsimp only)) | ((refine sy_ hO ?_); clear hO; intro w9 hO; (try dsimp only [List.set] at hO); ((try clear hf); have hf := fa_ hO)))

  go_ret
  exact ⟨rfl, hO.toExt⟩
end Go.Proofs.YtmknhibaoopjjaaGreatDoor
namespace Go.Proofs.YtmknhibaoopjjaaGreatDoor
open Go.RowKit
theorem goodFrom_key : ∀ {l : List Rw} {k : Option ByteArray}, goodFrom k l = true → ∀ r ∈ l, KeyOk r.key
  | [], _, _ => fun _ h => (List.not_mem_nil h).elim
  | r :: l, k, h => fun x hx => by
    rw [goodFrom] at h
    unfold goodAt at h
    simp only [Bool.and_eq_true, decide_eq_true_eq] at h
    rcases List.mem_cons.1 hx with rfl | hx
    · have h1 := h.1.1.2
      unfold keyN at h1
      split at h1
      · assumption
      · cases h1
    · exact goodFrom_key h.2 x hx
theorem goodR_rows {l : List Rw} (h : goodR l = true) : QRows l := by
  obtain ⟨h1, h2, h3⟩ := goodR_ok h
  refine ⟨h2, fun r hr => ⟨?_, (h3 r hr).2⟩, by omega⟩
  unfold goodR at h
  simp only [Bool.and_eq_true, decide_eq_true_eq] at h
  exact goodFrom_key h.2 r hr

set_option maxHeartbeats 8000000 in
set_option maxRecDepth 100000 in
theorem queueSays_any (ra : Option Addr) (n rc : Nat) (rows : List Rw) (aa : Option Addr) (m ac : Nat) (l : List Ac) (W : World) (hφ : VsArg ra rows aa l W) (hrl : rows.length = n) (hll : l.length = m)
    (hn : n ≤ 9223372036854775807) (hm : m ≤ 9223372036854775807) :
    Calls Tryz.prog 5 #[.slice ra n rc, .slice aa m ac] W fun e W' => e = .returned (.bool true) ∧ Ext W W' := by
  have hO := (hφ.base.again).imp (ψ := LibOk) fun _ h => h.1
  have HE := fun w (h : VsArg ra rows aa l w) => lines_any w h.1
  have HL : ∀ w, VsArg ra rows aa l w → Calls Tryz.prog 14 #[.slice aa m ac, .int .i64 40] w fun e w' => e = .returned (.bool (lightActs l 40)) ∧ w' = w := fun w hA => by
    subst hll; exact lightActs_any aa ac l 40 w (by unfold maxLen; omega) (by omega) hA.2.2
  have HG := fun w (h : VsArg ra rows aa l w) => goodRows_any ra n rc rows hrl hn w h.2.1
  cases hli : lightActs l 40 with
  | false =>
    rw [hli] at HL
    go_enter Tryz.func5, Tryz.ntmps5
    go_wp2_with (first | (go_at_call 39; (with_reducible apply Calls.mono (HE _ (Own.immOf (φ := VsArg ra rows aa l) hO pk_)); rintro e8 w8 ⟨rfl, hx8⟩; replace hO := hO.ext hx8; clear hx8; dsimp only; ((try clear hf); have hf := fa_ hO))) | (go_at_call 14; (with_reducible apply Calls.mono (HL _ (Own.immOf (φ := VsArg ra rows aa l) hO pk_)); rintro e8 w8 ⟨rfl, rfl⟩; dsimp only)) | (go_at_call 15; (with_reducible apply Calls.mono (HG _ (Own.immOf (φ := VsArg ra rows aa l) hO pk_)); rintro e8 w8 ⟨rfl, hx8⟩; replace hO := hO.ext hx8; clear hx8; dsimp only; ((try clear hf); have hf := fa_ hO))) | ((refine sy_ hO ?_); clear hO; intro w9 hO; (try dsimp only [List.set] at hO); ((try clear hf); have hf := fa_ hO)))
    all_goals first | (exfalso; omega; done) | (go_ret; exact ⟨rfl, hO.toExt⟩)
  | true =>
    rw [hli] at HL
    have hm60 : m ≤ 40 := by have := lightActs_len hli; omega
    cases hgr : goodR rows with
    | false =>
      rw [hgr] at HG
      go_enter Tryz.func5, Tryz.ntmps5
      go_wp2_with (first | (go_at_call 39; (with_reducible apply Calls.mono (HE _ (Own.immOf (φ := VsArg ra rows aa l) hO pk_)); rintro e8 w8 ⟨rfl, hx8⟩; replace hO := hO.ext hx8; clear hx8; dsimp only; ((try clear hf); have hf := fa_ hO))) | (go_at_call 14; (with_reducible apply Calls.mono (HL _ (Own.immOf (φ := VsArg ra rows aa l) hO pk_)); rintro e8 w8 ⟨rfl, rfl⟩; dsimp only)) | (go_at_call 15; (with_reducible apply Calls.mono (HG _ (Own.immOf (φ := VsArg ra rows aa l) hO pk_)); rintro e8 w8 ⟨rfl, hx8⟩; replace hO := hO.ext hx8; clear hx8; dsimp only; ((try clear hf); have hf := fa_ hO))) | ((refine sy_ hO ?_); clear hO; intro w9 hO; (try dsimp only [List.set] at hO); ((try clear hf); have hf := fa_ hO)))
      all_goals first | (exfalso; omega; done) | (go_ret; exact ⟨rfl, hO.toExt⟩)
    | true =>
      rw [hgr] at HG
      obtain ⟨h50, hup, hks⟩ := goodR_ok hgr
      have HSE := Lib.hid (Seen.new (goodR_rows hgr))
      have HN := vnew_does ra n rc rows hrl (by omega) hup.keys
      have HVN := fun p => vwNew_does p 0 (newV rows)
      clear hgr hks hup
      replace hO := (hO.pick (r := .imm (VsArg ra rows aa l)) pk_).again.imp (ψ := fun w => ValsAt w ra (rows.flatMap rwC)) fun _ h => h.2.1
      go_enter Tryz.func5, Tryz.ntmps5
      go_wp2_with (first | (go_at_call 39; (with_reducible apply Calls.mono (HE _ (Own.immOf (φ := VsArg ra rows aa l) hO pk_)); rintro e8 w8 ⟨rfl, hx8⟩; replace hO := hO.ext hx8; clear hx8; dsimp only; ((try clear hf); have hf := fa_ hO))) | (go_at_call 14; (with_reducible apply Calls.mono (HL _ (Own.immOf (φ := VsArg ra rows aa l) hO pk_)); rintro e8 w8 ⟨rfl, rfl⟩; dsimp only)) | (go_at_call 15; (with_reducible apply Calls.mono (HG _ (Own.immOf (φ := VsArg ra rows aa l) hO pk_)); rintro e8 w8 ⟨rfl, hx8⟩; replace hO := hO.ext hx8; clear hx8; dsimp only; ((try clear hf); have hf := fa_ hO))) | (go_at_call 17; (with_reducible apply Does.use hO (HN); (focus exact tk_); clear hO; intro x9 w9 hO; dsimp only at hO ⊢; simp only [CA] at hO; ((try clear hf); have hf := fa_ hO); rename Nat => p)) | (go_at_call 16; (with_reducible apply Does.use hO (HVN _); (focus exact tk_); clear hO; intro x9 w9 hO; dsimp only at hO ⊢; simp only [CA] at hO; ((try clear hf); have hf := fa_ hO); rename Nat => q)) | ((refine sy_ hO ?_); clear hO; intro w9 hO; (try dsimp only [List.set] at hO); ((try clear hf); have hf := fa_ hO)))
      subst hrl
      obtain ⟨mq, hg9⟩ := (hO.pick (r := Var _ [.slice ra rows.length rc, .int .i64 0, .slice none 0 0, .slice none 0 0] 35) pk_).named
      rw [← hg9]; rw [← hg9] at hO; clear hg9
      have hO := hO.newRView (q := mq) (ra := ra) (rc := rc) (rows := rows) tk_
      have hO9 := hO
      clear hO hf HN HVN
      go_loopw [8, 9] (fun v8 v9 wr => ∃ (j : Nat) (C : List Ch) (R : List Sp), v8 = .int .i64 j ∧ j ≤ m ∧ Hid (QInv C R) ∧
        Own (fun _ => False) W wr [ViewR q p 0 C R, VerR p 0 (newV rows), RViewR mq 0 ra rc rows C R, .imm LibOk, .imm (VsArg ra rows aa l)]) (fun v _ _ => m - (intOf v).toNat)
      case atStart => exact ⟨0, [], [], rfl, by omega, Lib.hid QInv.nil, hO9.cut sb_⟩
      case round =>
        clear hO9
        obtain ⟨j, C, R, rfl, hj, HI, hO⟩ := hrel
        rename World => w1
        ((try clear hf); have hf := fa_ hO)
        by_cases hlt : j < m
        · have hj2 : j < l.length := by omega
          have hxl := List.getElem_mem hj2
          obtain ⟨hxs, hxt, _, _, _⟩ := lightActs_at hli hxl
          have hA0 := (Own.immOf (φ := VsArg ra rows aa l) hO pk_).2.2
          have hspn := fun w (h : VsArg ra rows aa l w) => And.intro (h.2.2.2 _ hxl).2.2.1 (h.2.2.2 _ hxl).2.2.2.2
          rcases hA0.1 with h0 | ⟨b, off, rfl, hc⟩
          · rw [h0] at hj2; simp at hj2
          have hcell := fun w (h : VsArg ra rows (some ⟨b, off, none⟩) l w) => show AcAt w b (off + j * 9) l[j] from by
            rcases h.2.2.1 with h0 | ⟨b', off', he, hc⟩
            · rw [h0] at hj2; simp at hj2
            · simp only [Option.some.injEq, Addr.mk.injEq, and_true] at he
              obtain ⟨rfl, rfl⟩ := he
              exact hc j hj2
          have HT := turn_does q p 0 0 (newV rows) rows HSE.out C R HI.out mq ra rc l[j] hxs hxt (φ := VsArg ra rows (some ⟨b, off, none⟩) l) (fun w h => h.1) hspn
          clear hc hA0 hxl hspn
          generalize l[j] = x at *
          obtain ⟨k0, k1, k2, k3, k4, k5, k6, k7, k8⟩ := hcell _ (Own.immOf (φ := VsArg ra rows (some ⟨b, off, none⟩) l) hO pk_)
          clear hcell
          unfold Ac.v at HT
          go_wp2_with (first | (go_at_call 40; (with_reducible apply Does.use hO (HT); (focus exact tk_); clear hO; intro x9 w9 hO; dsimp only at hO ⊢; simp only [CA] at hO; ((try clear hf); have hf := fa_ hO); (obtain ⟨⟨C2, R2⟩, hI2⟩ := x9; dsimp only at hO ⊢; have HAS := asView_does q p 0 C2 R2 mq ra rc rows (by have := hI2.c12; dsimp only at this; omega) (by have := hI2.r40; dsimp only at this; omega); have HI2 := Lib.hid hI2; ((try clear hf); have hf := fa_ hO)))) | (go_at_call 29; (with_reducible apply Does.use hO (HAS); (focus exact tk_); clear hO; intro x9 w9 hO; dsimp only at hO ⊢; simp only [CA] at hO; ((try clear hf); have hf := fa_ hO))) | ((refine sy_ hO ?_); clear hO; intro w9 hO; (try dsimp only [List.set] at hO); ((try clear hf); have hf := fa_ hO)))

          exact ⟨⟨j + 1, C2, R2, by go_num, by omega, HI2, hO.cut sb_⟩, by simp [intOf]; omega⟩
        · obtain rfl : j = m := by omega
          go_wp2_with (first | ((refine sy_ hO ?_); clear hO; intro w9 hO; (try dsimp only [List.set] at hO); ((try clear hf); have hf := fa_ hO)))
          go_ret
          exact ⟨rfl, hO.toExt⟩
end Go.Proofs.YtmknhibaoopjjaaGreatDoor
