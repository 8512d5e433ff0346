/- Texts Row4, Row6, KeyC, Row7, Change, Change2, Change3, Row5, Words2, Row8, Row9, TopRow, RowSays, Qt of this claim, laid together. -/
import Derived.Test.YtagcmjmcjpjihaaGreatDoorHC25
import Derived.WalkSpells
import Derived.Test.YtagcmjmcjpjihaaGreatDoorHC8
set_option linter.unusedVariables false
set_option linter.unusedSimpArgs false
set_option maxHeartbeats 8000000
set_option maxRecDepth 100000
namespace Go.Proofs.YtagcmjmcjpjihaaGreatDoor
open Go.RowKit
theorem LibOk.up {w w':World} (h:LibOk w) (hb:∀b,b<w.heap.size→w'.heap[b]?=w.heap[b]?):LibOk w':=by
 have up:∀{a v},w.cell? a=some v→w'.cell? a=some v:=fun {a v} hc=>by
  have hl:a.block<w.heap.size:=by
   unfold World.cell? at hc;split at hc
   ·rename_i he;exact (Array.getElem?_eq_some_iff.1 he).1
   ·cases hc
  rw [World.cell?_of_block (w:=w) (hb _ hl)];exact hc
 exact ⟨h.max.imp fun _ h=>up h,h.syn.imp fun _ h=>h.imp fun _ h=>up h,h.rng.imp fun _ h=>h.imp fun _ h=>up h,zQr h.tab hb⟩
theorem zBX {w:World} (h:LibOk w):Own (fun _=>False) w w [.imm LibOk]:=Own.base w _ fun w' hw'=>h.up hw'
def rowS (a b:Nat) (d:ByteArray):ByteArray:=zAM a++sp++(zAM b++sp++d)
theorem zOQ (a b:Nat) (d:ByteArray):(((zAM a++⟨#[32]⟩)++zAM b)++⟨#[32]⟩)++d=rowS a b d:=zAS (by
 unfold rowS;rw [zAB,zAB,zAB,zAB,zAB,zAB,zAB,zAB];simp only [List.append_assoc];rfl)
theorem zFE (a b:Nat) (d:ByteArray):(rowS a b d).size=(zAM a).size+(zAM b).size+2+d.size:=by
 unfold rowS;rw [ByteArray.size_append,ByteArray.size_append,ByteArray.size_append,ByteArray.size_append];show (zAM a).size+1+((zAM b).size+1+d.size)=_;omega
theorem zMp (a b:Nat) (d:ByteArray) (w:World) (h:LibOk w) (ha:a≤999999) (hb1:1≤b) (hb2:b≤9) (hd:d.size=0∨zAN d) (hds:d.size≤50) :
 Calls Tryz.prog 201 #[.agg #[.int .i64 a,.int .i64 b,.string d]] w fun e w'=>e=.returned (.tuple #[.string (rowS a b d),.nilIface])∧Ext w w':=by
 have hO:=zBX h;have hs1:=zAR 6 a (by omega);have hs2:=zAR 6 b (by omega);have HI1:=fun w (h:LibOk w)=>zDQ a w h (by omega) (by omega)
 have HI2:=fun w (h:LibOk w)=>zDQ b w h (by omega) (by omega)
 have hfin:=zOQ a b d;generalize rowS a b d=fin at *;generalize zAM (a:Int)=s1 at *;generalize zAM (b:Int)=s2 at *;have HF:=Lib.hid hfin;clear hfin;have hdl:d.toList.length=d.size:=by rw [ByteArray.toList_eq];rfl
 by_cases hd0:d.size=0
 ·have hd1:d.toList=[]:=List.length_eq_zero_iff.1 (by omega);go_enter Tryz.func201,Tryz.ntmps201;go_wp2_with (refine sq_ ?_;clear hO;(try clear hf);intro w9 hO hf);all_goals (try (exfalso;omega));(refine rg_ hO ((0,0)::(1,1)::(3,2)::(0,3)::(0,4)::(1,5)::(3,6)::(0,7)::(0,8)::(0,9)::(1,10)::(0,11)::(0,12)::(0,13)::[]) ?_;clear hO;intro w9 hO;replace hf:=fa_ hO;(repeat (first|(apply zAG _ rfl rfl rfl;focus (intro w8 K8 hK8;(repeat (first | go_skip | go_guarded | go_step));exact hK8))|(apply zAJ _ rfl rfl rfl;focus (intro w8 hx8 K8 hK8;have hO:=hO.ext hx8;(replace hf:=fa_ hO);skip;(repeat (first | go_skip | go_guarded | go_step));exact hK8))|(apply zAL _ rfl;(focus (intro w8 hx8 K8 hK8;have hO:=hO.ext hx8;(replace hf:=fa_ hO);(repeat (first | go_skip | go_guarded | go_step | (go_at_call 233;(with_reducible apply Calls.mono (HI1 _ (Own.immOf (φ:=LibOk) hO pk_));rintro e7 w7 ⟨rfl,hx7⟩;dsimp only))|(go_at_call 233;(with_reducible apply Calls.mono (HI2 _ (Own.immOf (φ:=LibOk) hO pk_));rintro e7 w7 ⟨rfl,hx7⟩;dsimp only))));(first | exact xt_ | exact hK8 _ xt_)));(focus (exact rfl));intro w8 hx8;replace hO:=hO.ext hx8;clear hx8;(replace hf:=fa_ hO)))));refine zAA ?_;go_wp2_with fail;go_ret2;exact ⟨by rw [HF.out];rfl,hO.toExt⟩
 ·have hd1:¬d.toList=[]:=fun e=>hd0 (by rw [←hdl,e];rfl)
  have HN1:=fun w=>zDN d w (by omega)
  rw [decide_eq_true (hd.resolve_left hd0)] at HN1;go_enter Tryz.func201,Tryz.ntmps201;go_wp2_with (first|(go_at_call 173;(with_reducible apply Calls.mono (HN1 _);rintro e8 w8 ⟨rfl,rfl⟩;dsimp only))|(refine sq_ ?_;clear hO;(try clear hf);intro w9 hO hf));all_goals (try (exfalso;omega));(refine rg_ hO ((0,0)::(1,1)::(3,2)::(0,3)::(0,4)::(1,5)::(3,6)::(0,7)::(0,8)::(0,9)::(1,10)::(0,11)::(0,12)::(0,13)::[]) ?_;clear hO;intro w9 hO;replace hf:=fa_ hO;(repeat (first|(apply zAG _ rfl rfl rfl;focus (intro w8 K8 hK8;(repeat (first | go_skip | go_guarded | go_step));exact hK8))|(apply zAJ _ rfl rfl rfl;focus (intro w8 hx8 K8 hK8;have hO:=hO.ext hx8;(replace hf:=fa_ hO);skip;(repeat (first | go_skip | go_guarded | go_step));exact hK8))|(apply zAL _ rfl;(focus (intro w8 hx8 K8 hK8;have hO:=hO.ext hx8;(replace hf:=fa_ hO);(repeat (first | go_skip | go_guarded | go_step | (go_at_call 233;(with_reducible apply Calls.mono (HI1 _ (Own.immOf (φ:=LibOk) hO pk_));rintro e7 w7 ⟨rfl,hx7⟩;dsimp only))|(go_at_call 233;(with_reducible apply Calls.mono (HI2 _ (Own.immOf (φ:=LibOk) hO pk_));rintro e7 w7 ⟨rfl,hx7⟩;dsimp only))));(first | exact xt_ | exact hK8 _ xt_)));(focus (exact rfl));intro w8 hx8;replace hO:=hO.ext hx8;clear hx8;(replace hf:=fa_ hO)))));refine zAA ?_;go_wp2_with fail;go_ret2;exact ⟨by rw [HF.out];rfl,hO.toExt⟩
theorem zJI (a b:Int) (d:ByteArray) (w:World) (h:LibOk w) (hbad:a<0∨999999<a∨b<1∨9<b) :
 Calls Tryz.prog 201 #[.agg #[.int .i64 a,.int .i64 b,.string d]] w fun e w'=>e=.returned (.tuple #[.string ⟨#[]⟩,.iface 124 (.int .i64 1)])∧Ext w w':=by
 have hO:=zBX h;go_enter Tryz.func201,Tryz.ntmps201;go_wp2_with (refine sq_ ?_;clear hO;(try clear hf);intro w9 hO hf);all_goals first|(exfalso;omega)|(go_ret2;exact ⟨rfl,hO.toExt⟩)
theorem zIk (a b:Int) (d:ByteArray) (w:World) (h:LibOk w) (hok:¬(a<0∨999999<a∨b<1∨9<b)) (hd:¬(d.size=0∨zAN d)) (hds:d.size≤50) :
 Calls Tryz.prog 201 #[.agg #[.int .i64 a,.int .i64 b,.string d]] w fun e w'=>e=.returned (.tuple #[.string ⟨#[]⟩,.iface 124 (.int .i64 3)])∧Ext w w':=by
 have hO:=zBX h;have hdl:d.toList.length=d.size:=by rw [ByteArray.toList_eq];rfl
 have hd1:¬d.toList=[]:=fun e=>hd (.inl (by rw [←hdl,e];rfl))
 have HN1:=fun w=>zDN d w (by omega)
 rw [decide_eq_false (fun h=>hd (.inr h))] at HN1;clear hd;have k1:0≤a:=by omega
 have k2:a≤999999:=by omega
 have k3:1≤b:=by omega
 have k4:b≤9:=by omega
 clear hok;go_enter Tryz.func201,Tryz.ntmps201;go_wp2_with (first|(go_at_call 173;(with_reducible apply Calls.mono (HN1 _);rintro e8 w8 ⟨rfl,rfl⟩;dsimp only))|(refine sq_ ?_;clear hO;(try clear hf);intro w9 hO hf));all_goals (try (exfalso;omega));all_goals first|(go_ret2;exact ⟨rfl,hO.toExt⟩)|(exfalso;simp_all;done)
theorem zJy (n:Int) (a b:Nat) (d:ByteArray) (w:World) (h:LibOk w) (ha:a≤9) (hb2:b≤2000000) (hds:d.size≤28) :
 Calls Tryz.prog 204 #[.agg #[.int .i64 n,.int .i64 a,.int .i64 b,.string d]] w fun e w'=>e=.returned (.tuple #[.string (rowS a b d),.nilIface])∧Ext w w':=by
 have hO:=zBX h;have hs1:=zAR 6 a (by omega);have hs2:=zAR 6 b (by omega);have HI1:=fun w (h:LibOk w)=>zDQ a w h (by omega) (by omega)
 have HI2:=fun w (h:LibOk w)=>zDQ b w h (by omega) (by omega)
 have hfin:=zOQ a b d;generalize rowS a b d=fin at *;generalize zAM (a:Int)=s1 at *;generalize zAM (b:Int)=s2 at *;have HF:=Lib.hid hfin;clear hfin;go_enter Tryz.func204,Tryz.ntmps204;go_wp2_with (refine sq_ ?_;clear hO;(try clear hf);intro w9 hO hf);all_goals (try (exfalso;omega));(refine rg_ hO ((0,0)::(1,1)::(3,2)::(0,3)::(0,4)::(1,5)::(3,6)::(0,7)::(0,8)::(0,9)::(1,10)::(0,11)::(0,12)::(0,13)::[]) ?_;clear hO;intro w9 hO;replace hf:=fa_ hO;(repeat (first|(apply zAG _ rfl rfl rfl;focus (intro w8 K8 hK8;(repeat (first | go_skip | go_guarded | go_step));exact hK8))|(apply zAJ _ rfl rfl rfl;focus (intro w8 hx8 K8 hK8;have hO:=hO.ext hx8;(replace hf:=fa_ hO);skip;(repeat (first | go_skip | go_guarded | go_step));exact hK8))|(apply zAL _ rfl;(focus (intro w8 hx8 K8 hK8;have hO:=hO.ext hx8;(replace hf:=fa_ hO);(repeat (first | go_skip | go_guarded | go_step | (go_at_call 233;(with_reducible apply Calls.mono (HI1 _ (Own.immOf (φ:=LibOk) hO pk_));rintro e7 w7 ⟨rfl,hx7⟩;dsimp only))|(go_at_call 233;(with_reducible apply Calls.mono (HI2 _ (Own.immOf (φ:=LibOk) hO pk_));rintro e7 w7 ⟨rfl,hx7⟩;dsimp only))));(first | exact xt_ | exact hK8 _ xt_)));(focus (exact rfl));intro w8 hx8;replace hO:=hO.ext hx8;clear hx8;(replace hf:=fa_ hO)))));refine zAA ?_;go_wp2_with fail;go_ret2;exact ⟨by rw [HF.out];rfl,hO.toExt⟩
theorem zHO (n a b:Int) (d:ByteArray) (w:World) (h:LibOk w) (hbad:a<0∨9<a∨b<0∨2000000<b∨28<d.size) :
 Calls Tryz.prog 204 #[.agg #[.int .i64 n,.int .i64 a,.int .i64 b,.string d]] w fun e w'=>e=.returned (.tuple #[.string ⟨#[]⟩,.iface 124 (.int .i64 1)])∧Ext w w':=by
 have hO:=zBX h;go_enter Tryz.func204,Tryz.ntmps204;go_wp2_with (refine sq_ ?_;clear hO;(try clear hf);intro w9 hO hf);all_goals first|(exfalso;omega)|(go_ret2;exact ⟨rfl,hO.toExt⟩)
theorem Tryz.intU8:Tryz.prog.underlying 5=some (.int .u8):=by kernel_rfl
theorem zFo (m:Int):([m]:List Int).foldl (fun r n=>r.push (UInt8.ofNat n.toNat)) ByteArray.empty=⟨#[UInt8.ofNat m.toNat]⟩:=rfl
theorem zDH (n:Nat):∀w,n≤2000000000→Calls Tryz.prog 107 #[.int .i64 n] w fun e w'=>e=.returned (.string (zAM n))∧Ext w w':=by
 induction n using Nat.strongRecOn with
 | ind n ih=>
  intro w hn;have hO:=Own.start w (fun _=>False);by_cases h10:n<10
  ·have e:zAM n=⟨#[UInt8.ofNat (48+n)]⟩:=zAS (by rw [zC2,zD3 n h10];rfl);rw [e];obtain ⟨y,hy⟩:∃y:ByteArray,y=⟨#[UInt8.ofNat (48+n)]⟩:=⟨_,rfl⟩
   have HY:=Lib.hid hy;rw [←hy];clear hy e;go_enter Tryz.func107,Tryz.ntmps107;go_wp2_with (first|(refine zAX hO (r:=Var _ [.int .u8 (48+(n:Int))] 5) pk_ rfl (.tmp 14) 244 9 5 rfl Tryz.underlying244 Tryz.intU8 Tryz.underlying9 _ 0 1 1 [(48+(n:Int))] rfl rfl (by intro j u hj;cases j with | zero=>(injection hj with hj;subst hj;exact hf.1) | succ j=>simp at hj) ?_;rw [zFo,show (48+(n:Int)).toNat=48+n from by omega,←HY.out])|(refine sq_ ?_;clear hO;(try clear hf);intro w9 hO hf));go_ret;exact ⟨rfl,hO.toExt⟩
  ·have e:zAM n=zAM ((n / 10:Nat):Int)++⟨#[UInt8.ofNat (48+n % 10)]⟩:=zAS (by rw [zAB,zC2,zC2,zCB n h10];rfl);have hs:=zAR 9 (n / 10) (by omega);have HD:=fun w=>ih (n / 10) (by omega) w (by omega)
   rw [show ((n / 10:Nat):Int)=(n:Int) / 10 from by omega] at HD hs e;rw [e];generalize zAM ((n:Int) / 10)=x at *;obtain ⟨y,hy⟩:∃y:ByteArray,y=⟨#[UInt8.ofNat (48+n % 10)]⟩:=⟨_,rfl⟩
   have HY:=Lib.hid hy;have hys:y.size=1:=by rw [hy];rfl
   rw [←hy];clear hy e ih;go_enter Tryz.func107,Tryz.ntmps107;go_wp2_with (refine sq_ ?_;clear hO;(try clear hf);intro w9 hO hf);refine zFP [0,1,3,4,5,6,9,10] (.pure 0 <| .pure 1 <| .pure 3 <| .pure 4 <| .pure 5 <| .pure 6 <| .fork 2 (.one 7 <| .one 8 <| .pure 9 <| .pure 10 .done) 7 (.fork 2 (.one 8 <| .pure 9 <| .pure 10 .done) 8 (.one 2 <| .pure 9 <| .pure 10 .done))) (by kernel_rfl) (by kernel_rfl) (fun _ _ d _ _ h=>by cases d<;>exact h) ?_;intro w9 hx9;replace hO:=hO.ext hx9;clear hx9;(replace hf:=fa_ hO);(repeat (apply zBB _ rfl rfl rfl;focus (intro w8 K8 hK8;(repeat (first | go_skip | go_guarded | go_step));exact hK8)));refine zFH rfl rfl ?_ ?_
   ·(intro K8 hK8;(repeat (first | go_skip | go_guarded | go_step));(go_at_call 107;(with_reducible apply Calls.mono (HD _);rintro e7 w7 ⟨rfl,hx7⟩;replace hO:=hO.ext hx7;clear hx7;dsimp only;(replace hf:=fa_ hO)));(repeat go_step));refine zDq rfl ?_;(intro K8 hK8;(repeat (first | go_skip | go_guarded | go_step));with_reducible refine zAz hO ?_;clear hO;intro w9 hO;(replace hf:=fa_ hO));refine zDq rfl ?_;(intro K8 hK8;refine zAX hO (r:=Var _ [.int .u8 (48+(n:Int) % 10)] 5) pk_ rfl (.tmp 23) 244 9 5 rfl Tryz.underlying244 Tryz.intU8 Tryz.underlying9 _ 0 1 1 [(48+(n:Int) % 10)] rfl rfl (by intro j u hj;cases j with | zero=>(injection hj with hj;subst hj;exact hf.1) | succ j=>simp at hj) ?_;rw [zFo,show (48+(n:Int) % 10).toNat=48+n % 10 from by omega,←HY.out];(repeat go_step));(repeat (apply zBB _ rfl rfl rfl;focus (intro w8 K8 hK8;(repeat (first | go_skip | go_guarded | go_step));exact hK8)));refine zBV ?_;go_wp2_with (refine sq_ ?_;clear hO;(try clear hf);intro w9 hO hf);go_ret;exact ⟨rfl,hO.toExt⟩
   ·(intro K8 hK8;(repeat (first | go_skip | go_guarded | go_step));with_reducible refine zAz hO ?_;clear hO;intro w9 hO;(replace hf:=fa_ hO));refine zFH rfl rfl ?_ ?_
    ·(intro K8 hK8;(repeat (first | go_skip | go_guarded | go_step));(go_at_call 107;(with_reducible apply Calls.mono (HD _);rintro e7 w7 ⟨rfl,hx7⟩;replace hO:=hO.ext hx7;clear hx7;dsimp only;(replace hf:=fa_ hO)));(repeat go_step));refine zDq rfl ?_;(intro K8 hK8;refine zAX hO (r:=Var _ [.int .u8 (48+(n:Int) % 10)] 5) pk_ rfl (.tmp 23) 244 9 5 rfl Tryz.underlying244 Tryz.intU8 Tryz.underlying9 _ 0 1 1 [(48+(n:Int) % 10)] rfl rfl (by intro j u hj;cases j with | zero=>(injection hj with hj;subst hj;exact hf.1) | succ j=>simp at hj) ?_;rw [zFo,show (48+(n:Int) % 10).toNat=48+n % 10 from by omega,←HY.out];(repeat go_step));(repeat (apply zBB _ rfl rfl rfl;focus (intro w8 K8 hK8;(repeat (first | go_skip | go_guarded | go_step));exact hK8)));refine zBV ?_;go_wp2_with (refine sq_ ?_;clear hO;(try clear hf);intro w9 hO hf);go_ret;exact ⟨rfl,hO.toExt⟩
    ·(intro K8 hK8;refine zAX hO (r:=Var _ [.int .u8 (48+(n:Int) % 10)] 5) pk_ rfl (.tmp 23) 244 9 5 rfl Tryz.underlying244 Tryz.intU8 Tryz.underlying9 _ 0 1 1 [(48+(n:Int) % 10)] rfl rfl (by intro j u hj;cases j with | zero=>(injection hj with hj;subst hj;exact hf.1) | succ j=>simp at hj) ?_;rw [zFo,show (48+(n:Int) % 10).toNat=48+n % 10 from by omega,←HY.out];(repeat go_step));refine zDq rfl ?_;(intro K8 hK8;(repeat (first | go_skip | go_guarded | go_step));(go_at_call 107;(with_reducible apply Calls.mono (HD _);rintro e7 w7 ⟨rfl,hx7⟩;replace hO:=hO.ext hx7;clear hx7;dsimp only;(replace hf:=fa_ hO)));(repeat go_step));(repeat (apply zBB _ rfl rfl rfl;focus (intro w8 K8 hK8;(repeat (first | go_skip | go_guarded | go_step));exact hK8)));refine zBV ?_;go_wp2_with (refine sq_ ?_;clear hO;(try clear hf);intro w9 hO hf);go_ret;exact ⟨rfl,hO.toExt⟩
theorem retS {a b:ByteArray} (h:a=b):Ending.returned (.string a)=.returned (.string b):=by rw [h]
theorem zKK (a:ByteArray) (w:World) (ha:a.size≤1000):Calls Tryz.prog 174 #[.string a] w fun e w'=>e=.returned (.string (queB a))∧w'=w:=by
 go_enter Tryz.func174,Tryz.ntmps174;go_wp2;go_ret;exact ⟨retS (zAS (by unfold queB;rw [zAB,zAB,zAB];rfl)),rfl⟩
theorem zBD (a:ByteArray) (n:Int) (w:World) (ha:a.size≤1000) (h:LibOk w) (hn:n≤9223372036854775807):Calls Tryz.prog 124 #[.string a,.int .i64 n] w fun e w'=>e=.returned (.string (msgB a n.toNat))∧Ext w w':=by
 have hz:=zIO n.toNat;have key:∀w,LibOk w→∀z:Int,z=(n.toNat:Int)→Calls Tryz.prog 195 #[.int .i64 z] w fun e w'=>e=.returned (.string (six n.toNat))∧Ext w w':=fun w h z hz=>by
  rw [hz];exact zOS n.toNat w h (by omega)
 have fin:((⟨#[109,47]⟩++a)++⟨#[47]⟩)++six n.toNat=msgB a n.toNat:=zAS (by unfold msgB;rw [zAB,zAB,zAB,zAB,zAB,zAB,zAB];simp only [List.append_assoc];rfl);generalize six n.toNat=y at *;have k1:=fun w h=>key w h (max n 0) (by omega)
 go_enter Tryz.func124,Tryz.ntmps124;go_wp2_with (go_at_call 195;with_reducible apply Calls.mono (k1 _ h);rintro e8 w8 ⟨rfl,hx⟩;dsimp only);all_goals first|(exfalso;omega)|(go_ret;exact ⟨rfl,hx⟩)
def loB (a:ByteArray):ByteArray:=mB++slash++a++slash
def hiB (a:ByteArray):ByteArray:=mB++slash++a++⟨#[48]⟩
theorem zDc (a:ByteArray) (w:World) (ha:a.size≤1000):Calls Tryz.prog 180 #[.string a] w fun e w'=>e=.returned (.agg #[.string (loB a),.string (hiB a)])∧Ext w w':=by
 have e1:(⟨#[109,47]⟩++a)++⟨#[47]⟩=loB a:=zAS (by unfold loB;rw [zAB,zAB,zAB,zAB,zAB];rfl);have e2:(⟨#[109,47]⟩++a)++⟨#[48]⟩=hiB a:=zAS (by unfold hiB;rw [zAB,zAB,zAB,zAB,zAB];rfl);have E1:=Lib.hid e1;have E2:=Lib.hid e2;clear e1 e2;go_enter Tryz.func180,Tryz.ntmps180;go_wp2;refine bodyPost_ret (v:=.agg #[.string (loB a),.string (hiB a)]) ?_ rfl ⟨rfl,?_⟩
 ·simp [results,Tryz.results180,go_sem,←E1.out,←E2.out]
 ·exact (Ext.refl _).alloc _
def zGK (k hi:ByteArray):Bool:=hi.toList.isEmpty||slt k hi
def hasB (lo hi k:ByteArray):Bool:=!slt k lo&&zGK k hi
theorem zO3 (k hi:ByteArray) (w:World) :
 Calls Tryz.prog 206 #[.string k,.string hi] w fun e w'=>e=.returned (.bool (zGK k hi))∧w'=w:=by
 go_enter Tryz.func206,Tryz.ntmps206;go_wp2;all_goals (go_ret;refine ⟨?_,rfl⟩;simp [zGK,slt, *])
theorem zIB (lo hi k:ByteArray) (w:World) :
 Calls Tryz.prog 132 #[.agg #[.string lo,.string hi],.string k] w fun e w'=>e=.returned (.bool (hasB lo hi k))∧Ext w w':=by
 go_enter Tryz.func132,Tryz.ntmps132;go_wp2_with (go_at_call 206;refine (zO3 _ _ _).mono ?_;rintro e w' ⟨rfl,rfl⟩);all_goals (go_ret;refine ⟨?_,(Ext.refl _).alloc _⟩;simp [hasB,slt, *])
theorem zHs (k:ByteArray) (i j:Nat):(k.extract i j).data.toList=(k.data.toList.take j).drop i:=by
 rw [ByteArray.data_extract,Array.toList_extract,List.extract_eq_take_drop,List.drop_take]
theorem zKt (l:List UInt8) (hl:l.length=6) (hd:∀c∈l,48≤c.toNat∧c.toNat≤57):∃m,m<1000000∧l=esix m:=by
 match l,hl with
 | [a,b,c,d,e,f],_=>
  have ha:=hd a (by simp);have hb:=hd b (by simp);have hc:=hd c (by simp);have hd':=hd d (by simp);have he:=hd e (by simp);have hf:=hd f (by simp);have back:∀x:UInt8,48≤x.toNat→x.toNat≤57→x=d8 (x.toNat-48):=fun x h1 h2=>UInt8.toNat_inj.1 (by rw [zA2 _ (by omega)];omega)
  have mk:∀x:UInt8,48≤x.toNat∧x.toNat≤57→∃y,y<10∧x=d8 y:=fun x h=>⟨x.toNat-48,by omega,back x h.1 h.2⟩
  obtain ⟨x1,h1,rfl⟩:=mk a ha;obtain ⟨x2,h2,rfl⟩:=mk b hb;obtain ⟨x3,h3,rfl⟩:=mk c hc;obtain ⟨x4,h4,rfl⟩:=mk d hd';obtain ⟨x5,h5,rfl⟩:=mk e he;obtain ⟨x6,h6,rfl⟩:=mk f hf;refine ⟨((((x1*10+x2)*10+x3)*10+x4)*10+x5)*10+x6,by omega,?_⟩;unfold esix;rw [show (((((x1*10+x2)*10+x3)*10+x4)*10+x5)*10+x6) / 100000 % 10=x1 from by omega,show (((((x1*10+x2)*10+x3)*10+x4)*10+x5)*10+x6) / 10000 % 10=x2 from by omega,
   show (((((x1*10+x2)*10+x3)*10+x4)*10+x5)*10+x6) / 1000 % 10=x3 from by omega,show (((((x1*10+x2)*10+x3)*10+x4)*10+x5)*10+x6) / 100 % 10=x4 from by omega,
   show (((((x1*10+x2)*10+x3)*10+x4)*10+x5)*10+x6) / 10 % 10=x5 from by omega,show (((((x1*10+x2)*10+x3)*10+x4)*10+x5)*10+x6) % 10=x6 from by omega]
theorem zNN (m:Nat):∀c∈esix m,48≤c.toNat∧c.toNat≤57:=by
 unfold esix;intro c hc;simp only [List.mem_cons,List.not_mem_nil,or_false] at hc;rcases hc with rfl | rfl | rfl | rfl | rfl | rfl<;>(rw [zA2 _ (by omega)];omega)
def zDe (k:ByteArray):ByteArray:=k.extract 0 2
def zDJ (k:ByteArray):ByteArray:=k.extract 2 k.size
def mid (k:ByteArray):ByteArray:=k.extract 2 (k.size-7)
def zPP (k:ByteArray):Prop:=∀i (h:i<k.size),k.size-6≤i→48≤k[i].toNat∧k[i].toNat≤57
theorem zJM (k:ByteArray) (i:Nat) (h:i<k.size):k[i]=k.data.toList[i]'(by simpa using h):=rfl
theorem zDi (k:ByteArray):(zDe k).data.toList=k.data.toList.take 2:=by unfold zDe;rw [zHs,List.drop_zero]
theorem zOq (k:ByteArray):(zDJ k).data.toList=k.data.toList.drop 2:=by
 unfold zDJ;rw [zHs,show k.size=k.data.toList.length from by simp,List.take_length]
theorem zPy (k:ByteArray) (x:ByteArray) (hx:x.size=1) (h:zDe k=x++slash):k=x++slash++zDJ k:=zAS (by
 rw [zAB,←h,zDi,zOq,List.take_append_drop])
theorem zR3 (k:ByteArray) (h:zDe k=tB++slash∨zDe k=qB++slash):KeyOk k↔zAN (zDJ k):=by
 rcases h with h | h
 ·have e:=zPy k tB rfl h;constructor
  ·intro hk;have:=(zGZ k).1 hk;have hc:cutB k slash=(tB,zDJ k,true):=by
    generalize zDJ k=r at e;rw [e];exact zDz tB _ (by decide)
   rw [hc] at this;rcases this.2 with h2 | h2
   ·exact h2.2
   ·exact absurd (show tB=mB from h2.1) (by decide)
  ·intro hn;exact .inl ⟨_,hn,.inl e⟩
 ·have e:=zPy k qB rfl h;constructor
  ·intro hk;have:=(zGZ k).1 hk;have hc:cutB k slash=(qB,zDJ k,true):=by
    generalize zDJ k=r at e;rw [e];exact zDz qB _ (by decide)
   rw [hc] at this;rcases this.2 with h2 | h2
   ·exact h2.2
   ·exact absurd (show qB=mB from h2.1) (by decide)
  ·intro hn;exact .inl ⟨_,hn,.inr e⟩
theorem zM1 (k:ByteArray):(mid k).data.toList=(k.data.toList.take (k.size-7)).drop 2:=by unfold mid;rw [zHs]
theorem zQi (l:List UInt8) (h:10≤l.length) (hl:l.length-7<l.length):l=l.take 2++((l.take (l.length-7)).drop 2++(l[l.length-7]'hl::l.drop (l.length-6))):=by
 have e1:l.take (l.length-7)=l.take 2++(l.take (l.length-7)).drop 2:=by
  conv=>lhs;rw [←List.take_append_drop 2 (l.take (l.length-7))]
  rw [List.take_take,Nat.min_eq_left (by omega)]
 have e2:l.drop (l.length-7)=l[l.length-7]'hl::l.drop (l.length-6):=by
  rw [List.drop_eq_getElem_cons hl,show l.length-7+1=l.length-6 from by omega]
 conv=>lhs;rw [←List.take_append_drop (l.length-7) l,e1,e2]
 rw [List.append_assoc]
theorem zJU (k:ByteArray):zPP k↔∀c∈k.data.toList.drop (k.size-6),48≤c.toNat∧c.toNat≤57:=by
 have hs:k.data.toList.length=k.size:=by simp
 constructor
 ·intro h c hc;obtain ⟨i,hi,rfl⟩:=List.getElem_of_mem hc;rw [List.length_drop,hs] at hi;have:=h (k.size-6+i) (by omega) (by omega);rw [zJM] at this;rw [List.getElem_drop];exact this
 ·intro h i hi h6;have hm:k.data.toList[i]'(by rw [hs];exact hi)∈k.data.toList.drop (k.size-6):=by
   rw [List.mem_iff_getElem];refine ⟨i-(k.size-6),by rw [List.length_drop,hs];omega,?_⟩;rw [List.getElem_drop]
   congr 1;omega
  have:=h _ hm;rw [zJM];exact this
theorem zSw (k:ByteArray) (h:¬(2<k.size∧(zDe k=tB++slash∨zDe k=qB++slash))) :
 KeyOk k↔10≤k.size∧zDe k=mB++slash∧(∃h7:k.size-7<k.size,k[k.size-7]=47)∧zAN (mid k)∧zPP k:=by
 have hs:k.data.toList.length=k.size:=by simp
 constructor
 ·rintro (⟨a,ha,hk | hk⟩ | ⟨q,n,hq,hn,hk⟩)
  ·exfalso;apply h;have h1:=ha.1;refine ⟨by rw [hk,ByteArray.size_append,ByteArray.size_append];show 2<1+1+a.size;omega,.inl (zAS ?_)⟩;rw [zDi,hk,zAB,zAB];rfl
  ·exfalso;apply h;have h1:=ha.1;refine ⟨by rw [hk,ByteArray.size_append,ByteArray.size_append];show 2<1+1+a.size;omega,.inr (zAS ?_)⟩;rw [zDi,hk,zAB,zAB];rfl
  ·have hl:k.data.toList=109::47::(q.data.toList++47::esix (n % 1000000)):=by
    rw [hk,zAB,zAB,zAB,zAB];simp only [List.append_assoc];rfl
   have hqs:q.data.toList.length=q.size:=by simp
   have hsz:k.size=q.size+9:=by
    rw [←hs,hl];simp only [List.length_cons,List.length_append,hqs];show q.size+(6+1)+1+1=_;omega
   have h1:=hq.1;refine ⟨by omega,zAS (by rw [zDi,hl];rfl),⟨by omega,?_⟩,?_,?_⟩
   ·rw [zJM];have:k.data.toList[k.size-7]?=some 47:=by
     rw [hl,show k.size-7=q.size+2 from by omega,←hqs];simp
    have h2:=List.getElem?_eq_some_iff.1 this;exact h2.2
   ·rw [show mid k=q from zAS (by
     rw [zM1,hl,show k.size-7=q.data.toList.length+1+1 from by omega];simp)]
    exact hq
   ·rw [zJU,hl,show k.size-6=q.data.toList.length+1+1+1 from by omega];have:List.drop (q.data.toList.length+1+1+1) (109::47::(q.data.toList++47::esix (n % 1000000)))=esix (n % 1000000):=by
     simp only [List.drop_succ_cons];rw [show q.data.toList.length+1=(q.data.toList++[47]).length from by simp,show q.data.toList++47::esix (n % 1000000)=(q.data.toList++[47])++esix (n % 1000000) from by simp,List.drop_left]
    rw [this];exact zNN _
 ·rintro ⟨h10,h1,⟨h7,h2⟩,h3,h4⟩;rw [zJU] at h4;have h5:=zQi k.data.toList (by omega) (by omega);obtain ⟨m,hm,h6⟩:=zKt _ (by rw [List.length_drop,hs];omega) h4;rw [zJM] at h2;refine .inr ⟨mid k,m,h3,hm,zAS ?_⟩;have h9:(mB++slash).data.toList=k.data.toList.take 2:=by rw [←h1,zDi]
  rw [zAB,h9,zAB,zAB,zM1,show (six m).data.toList=esix m from by show esix (m % 1000000)=_;rw [Nat.mod_eq_of_lt hm],←h6];have h8:k.data.toList[k.data.toList.length-7]'(by omega)=47:=by
   rw [←h2];congr 1<;>omega
  rw [h8,hs] at h5;try (first | exact h5 | (rw [List.append_assoc];exact h5))
theorem zMk (k:ByteArray) (w:World) (hs:k.size≤300):Calls Tryz.prog 57 #[.string k] w fun e w'=>e=.returned (.int .i64 (keyN k))∧w'=w:=by
 by_cases h1:2<k.size∧(zDe k=tB++slash∨zDe k=qB++slash)
 ·obtain ⟨h2,h3⟩:=h1;have hK:=zR3 k h3;have hrs:(zDJ k).size≤300:=by unfold zDJ;rw [ByteArray.size_extract];omega
  have HN1:=fun w=>zHd (zDJ k) w (by omega)
  have hh:((k.extract 0 2).toList==[116,47])=true∨((k.extract 0 2).toList==[113,47])=true:=by
   rcases h3 with h | h
   ·left;rw [show k.extract 0 2=tB++slash from h];decide +kernel
   ·right;rw [show k.extract 0 2=qB++slash from h];decide +kernel
  rw [show zDJ k=k.extract 2 k.size from rfl] at HN1 hK;generalize hx:k.extract 0 2=x at *;by_cases hN:zAN (k.extract 2 k.size)
  ·rw [zCc (hK.2 hN)];rw [decide_eq_true hN] at HN1;clear hK hN h3;cases ht:(x.toList==[116,47]) with
   | true=>
    go_enter Tryz.func57,Tryz.ntmps57;go_wp2_with (go_at_call 138;(with_reducible apply Calls.mono (HN1 _);rintro e8 w8 ⟨rfl,rfl⟩;dsimp only));go_ret;exact ⟨rfl,rfl⟩
   | false=>
    rw [ht] at hh;have hq:=hh.resolve_left (by simp);clear hh;go_enter Tryz.func57,Tryz.ntmps57;go_wp2_with (go_at_call 138;(with_reducible apply Calls.mono (HN1 _);rintro e8 w8 ⟨rfl,rfl⟩;dsimp only));go_ret;exact ⟨rfl,rfl⟩
  ·rw [zA6 (fun h=>hN (hK.1 h))];rw [decide_eq_false hN] at HN1;clear hK hN h3;cases ht:(x.toList==[116,47]) with
   | true=>
    go_enter Tryz.func57,Tryz.ntmps57;go_wp2_with (go_at_call 138;(with_reducible apply Calls.mono (HN1 _);rintro e8 w8 ⟨rfl,rfl⟩;dsimp only));go_ret;exact ⟨rfl,rfl⟩
   | false=>
    rw [ht] at hh;have hq:=hh.resolve_left (by simp);clear hh;go_enter Tryz.func57,Tryz.ntmps57;go_wp2_with (go_at_call 138;(with_reducible apply Calls.mono (HN1 _);rintro e8 w8 ⟨rfl,rfl⟩;dsimp only));go_ret;exact ⟨rfl,rfl⟩
 ·have hK:=zSw k h1;have hno:¬2<k.size∨((k.extract 0 2).toList==[116,47])=false∧((k.extract 0 2).toList==[113,47])=false:=by
   by_cases h2:2<k.size
   ·right;constructor
    ·rw [show ([116,47]:List UInt8)=(tB++slash).toList from by decide +kernel];exact zEo (fun e=>h1 ⟨h2,.inl e⟩)
    ·rw [show ([113,47]:List UInt8)=(qB++slash).toList from by decide +kernel];exact zEo (fun e=>h1 ⟨h2,.inr e⟩)
   ·exact .inl h2
  clear h1;by_cases h10:10≤k.size
  ·obtain ⟨ht,hq⟩:=hno.resolve_left (by omega);clear hno;have hms:(mid k).size≤300:=by unfold mid;rw [ByteArray.size_extract];omega
   have HN1:=fun w=>zHd (mid k) w (by omega)
   have hmm:zDe k=mB++slash↔((k.extract 0 2).toList==[109,47])=true:=by
    rw [show ([109,47]:List UInt8)=(mB++slash).toList from by decide +kernel];constructor
    ·intro h;rw [show k.extract 0 2=mB++slash from h];simp
    ·intro h;apply Classical.byContradiction;intro hne;rw [zEo (show k.extract 0 2≠mB++slash from hne)] at h;cases h
   rw [hmm] at hK;clear hmm;rw [show mid k=k.extract 2 (k.size-7) from rfl] at HN1 hK;generalize hx:k.extract 0 2=x at *;cases hm:(x.toList==[109,47]) with
   | false=>
    rw [zA6 (fun h=>by have:=(hK.1 h).2.1;rw [hm] at this;cases this)];clear hK;go_enter Tryz.func57,Tryz.ntmps57;go_wp2_with (go_at_call 138;(with_reducible apply Calls.mono (HN1 _);rintro e8 w8 ⟨rfl,rfl⟩;dsimp only));go_ret;exact ⟨rfl,rfl⟩
   | true=>
    by_cases h47:k[k.size-7]'(by omega)=47
    ·by_cases hN:zAN (k.extract 2 (k.size-7))
     ·have hK2:KeyOk k↔zPP k:=hK.trans ⟨fun h=>h.2.2.2.2,fun h=>⟨h10,hm,⟨by omega,h47⟩,hN,h⟩⟩;clear hK;rw [decide_eq_true hN] at HN1;have hc : (((k[k.size - 7]'(by omega)).toNat : Int) != 47) = false := by rw [h47]; rfl
      go_enter Tryz.func57,Tryz.ntmps57;go_wp2_with (go_at_call 138;(with_reducible apply Calls.mono (HN1 _);rintro e8 w8 ⟨rfl,rfl⟩;dsimp only));clear hN HN1;go_loop [6] (fun v=>∃i:Nat,k.size-6≤i∧i≤k.size∧v=.int .i64 i∧Hid (∀j (h:j<k.size),k.size-6≤j→j<i→48≤k[j].toNat∧k[j].toNat≤57)) (fun v=>k.size-(intOf v).toNat)
      case atStart=>exact ⟨k.size-6,by omega,by omega,by congr 1;omega,Lib.hid (fun j _ h1 h2=>by omega)⟩
      case round=>
       obtain ⟨i,hi1,hi2,rfl,HI⟩:=hrel;by_cases hlt:i<k.size
       ·go_wp2;all_goals first
         | (go_ret;refine ⟨?_,rfl⟩;rw [zA6 (fun h=>by have:=hK2.1 h i hlt hi1;omega)];rfl)
         | (refine ⟨⟨i + 1, by omega, by omega, by go_num, Lib.hid (fun j hj h1 h2 => ?_)⟩, by simp [intOf]; omega⟩; rcases Nat.lt_or_ge j i with h3 | h3
            ·exact HI.out j hj h1 h3
            ·obtain rfl:j=i:=by omega
             omega)
       ·go_wp2;go_ret;refine ⟨?_,rfl⟩;rw [zCc (hK2.2 (fun j hj h1=>HI.out j hj h1 (by omega)))];rfl
     ·rw [zA6 (fun h=>hN (hK.1 h).2.2.2.1)];rw [decide_eq_false hN] at HN1;have hc : (((k[k.size - 7]'(by omega)).toNat : Int) != 47) = false := by rw [h47]; rfl
      clear hK hN;go_enter Tryz.func57,Tryz.ntmps57;go_wp2_with (go_at_call 138;(with_reducible apply Calls.mono (HN1 _);rintro e8 w8 ⟨rfl,rfl⟩;dsimp only));go_ret;exact ⟨rfl,rfl⟩
    ·rw [zA6 (fun h=>by obtain ⟨_,h⟩:=(hK.1 h).2.2.1;exact h47 h)];have hc : (((k[k.size - 7]'(by omega)).toNat : Int) != 47) = true := by
      have h48:¬(k[k.size-7]'(by omega)).toNat=47:=fun e=>h47 (UInt8.toNat_inj.1 e)
      simp only [bne_iff_ne];omega
     clear hK;go_enter Tryz.func57,Tryz.ntmps57;go_wp2_with (go_at_call 138;(with_reducible apply Calls.mono (HN1 _);rintro e8 w8 ⟨rfl,rfl⟩;dsimp only));all_goals (go_ret;exact ⟨rfl,rfl⟩)
  ·rw [zA6 (fun h=>h10 (hK.1 h).1)];clear hK;by_cases h2:2<k.size
   ·obtain ⟨ht,hq⟩:=hno.resolve_left (by omega);clear hno;generalize hx:k.extract 0 2=x at *;go_enter Tryz.func57,Tryz.ntmps57;go_wp2_with (go_at_call 138;(with_reducible apply Calls.mono (HN1 _);rintro e8 w8 ⟨rfl,rfl⟩;dsimp only));go_ret;exact ⟨rfl,rfl⟩
   ·clear hno;go_enter Tryz.func57,Tryz.ntmps57;go_wp2_with (go_at_call 138;(with_reducible apply Calls.mono (HN1 _);rintro e8 w8 ⟨rfl,rfl⟩;dsimp only));go_ret;exact ⟨rfl,rfl⟩
def ChOk (c:Ch):Prop:=KeyOk c.key∧(c.gone=true→c.val.size=0)∧c.val.size≤40
open Classical in
noncomputable def chN (c:Ch):Nat:=if KeyOk c.key then (if c.gone=true∧c.val.size≠0 then 3 else if 40<c.val.size then 1 else 0) else 3
theorem zP5 {c:Ch} (h:¬KeyOk c.key):chN c=3:=if_neg h
theorem zMJ {c:Ch} (h:KeyOk c.key) (h2:c.gone=true) (h3:c.val.size≠0):chN c=3:=by unfold chN;rw [if_pos h,if_pos ⟨h2,h3⟩]
theorem zSf {c:Ch} (h:KeyOk c.key) (h2:c.gone=true→c.val.size=0) (h3:40<c.val.size):chN c=1:=by
 unfold chN;rw [if_pos h,if_neg (fun e=>e.2 (h2 e.1)),if_pos h3]
theorem zCj {c:Ch} (h:ChOk c):chN c=0:=by
 unfold chN;rw [if_pos h.1,if_neg (fun e=>e.2 (h.2.1 e.1)),if_neg (by have:=h.2.2;omega)]
theorem zPw (c:Ch):chN c≤3:=by
 unfold chN;split
 ·split
  ·omega
  ·split<;>omega
 ·omega
theorem zDy {c:Ch}:chN c=0↔ChOk c:=by
 refine ⟨fun h=>?_,zCj⟩;unfold chN at h;split at h
 ·rename_i h1;split at h
  ·cases h
  ·rename_i h2;split at h
   ·cases h
   ·rename_i h3;refine ⟨h1,fun hg=>?_,by omega⟩;by_cases hv:c.val.size=0
    ·exact hv
    ·exact absurd ⟨hg,hv⟩ h2
 ·cases h
theorem zBQ {k:ByteArray} (h:KeyOk k):k.size≤15:=by
 rcases h with ⟨a,ha,rfl | rfl⟩ | ⟨q,n,hq,hn,rfl⟩
 ·rw [ByteArray.size_append,ByteArray.size_append];have:=ha.2.1;show 1+1+a.size≤15;omega
 ·rw [ByteArray.size_append,ByteArray.size_append];have:=ha.2.1;show 1+1+a.size≤15;omega
 ·rw [ByteArray.size_append,ByteArray.size_append,ByteArray.size_append,ByteArray.size_append,zIO];have:=hq.2.1;show 1+1+(q.size+1+6)≤15;omega
theorem zP7 (d:ByteArray):d.toList.length=d.size:=by rw [ByteArray.toList_eq];rfl
theorem zLt {d:ByteArray}:d.toList=[]↔d.size=0:=by rw [←List.length_eq_zero_iff,zP7]
theorem zAu (c:Ch) (w:World) (h:LibOk w) (hs:c.key.size≤300) (hv:c.val.size≤1000):Calls Tryz.prog 149 #[c.v] w fun e w'=>e=.returned (errV (chN c))∧Ext w w':=by
 have hO:=zBX h;have hC:=fun w h=>zGW c.key w h (by omega)
 unfold Ch.v;by_cases hk:KeyOk c.key
 ·rw [zCc hk,show errV 0=.nilIface from rfl] at hC;by_cases hg:c.gone=true∧c.val.size≠0
  ·rw [zMJ hk hg.1 hg.2];have e:errV 3=.iface 124 (.int .i64 3):=rfl;rw [e];clear e;have hvl:¬c.val.toList=[]:=fun e=>hg.2 (zLt.1 e)
   obtain ⟨k,v,g⟩:=c;obtain ⟨rfl,hg2⟩:=hg;dsimp only at *;go_enter Tryz.func149,Tryz.ntmps149;go_wp2_with (first|(go_at_call 111;(with_reducible apply Calls.mono (hC _ (Own.immOf (φ:=LibOk) hO pk_));refine cu_ ?_;clear hO;(try clear hf);intro w8 hO hf))|(refine sq_ ?_;clear hO;(try clear hf);intro w9 hO hf));all_goals first|(exfalso;omega)|(go_ret;exact ⟨rfl,hO.toExt⟩)|(exfalso;simp_all;done)
  ·have hg':c.gone=true→c.val.size=0:=fun e=>by
    by_cases hv:c.val.size=0
    ·exact hv
    ·exact absurd ⟨e,hv⟩ hg
   by_cases hb:40<c.val.size
   ·rw [zSf hk hg' hb];have e:errV 1=.iface 124 (.int .i64 1):=rfl;rw [e];clear e;obtain ⟨k,v,g⟩:=c;cases g with
    | true=>exact absurd (hg' rfl) (by dsimp only at *;omega)
    | false=>
     clear hg hg';dsimp only at *;go_enter Tryz.func149,Tryz.ntmps149;go_wp2_with (first|(go_at_call 111;(with_reducible apply Calls.mono (hC _ (Own.immOf (φ:=LibOk) hO pk_));refine cu_ ?_;clear hO;(try clear hf);intro w8 hO hf))|(refine sq_ ?_;clear hO;(try clear hf);intro w9 hO hf));all_goals first|(exfalso;omega)|(go_ret;exact ⟨rfl,hO.toExt⟩)|(exfalso;simp_all;done)
   ·rw [zCj ⟨hk,hg',by omega⟩,show errV 0=.nilIface from rfl];obtain ⟨k,v,g⟩:=c;cases g with
    | true=>
     have hvl:v.toList=[]:=zLt.2 (hg' rfl);clear hg hg';dsimp only at *;go_enter Tryz.func149,Tryz.ntmps149;go_wp2_with (first|(go_at_call 111;(with_reducible apply Calls.mono (hC _ (Own.immOf (φ:=LibOk) hO pk_));refine cu_ ?_;clear hO;(try clear hf);intro w8 hO hf))|(refine sq_ ?_;clear hO;(try clear hf);intro w9 hO hf));all_goals first|(exfalso;omega)|(go_ret;exact ⟨rfl,hO.toExt⟩)|(exfalso;simp_all;done)
    | false=>
     clear hg hg';dsimp only at *;go_enter Tryz.func149,Tryz.ntmps149;go_wp2_with (first|(go_at_call 111;(with_reducible apply Calls.mono (hC _ (Own.immOf (φ:=LibOk) hO pk_));refine cu_ ?_;clear hO;(try clear hf);intro w8 hO hf))|(refine sq_ ?_;clear hO;(try clear hf);intro w9 hO hf));all_goals first|(exfalso;omega)|(go_ret;exact ⟨rfl,hO.toExt⟩)|(exfalso;simp_all;done)
 ·rw [zP5 hk];rw [zA6 hk] at hC;have e:errV 3=.iface 124 (.int .i64 3):=rfl;rw [e] at hC ⊢;clear e;go_enter Tryz.func149,Tryz.ntmps149;go_wp2_with (first|(go_at_call 111;(with_reducible apply Calls.mono (hC _ (Own.immOf (φ:=LibOk) hO pk_));refine cu_ ?_;clear hO;(try clear hf);intro w8 hO hf))|(refine sq_ ?_;clear hO;(try clear hf);intro w9 hO hf));all_goals first|(exfalso;omega)|(go_ret;exact ⟨rfl,hO.toExt⟩)|(exfalso;simp_all;done)
def zAZ (c:Ch):ByteArray:=⟨#[if c.gone then 1 else 0,UInt8.ofNat c.key.size]⟩++c.key++c.val
theorem zHp (a b:Int):([a,b]:List Int).foldl (fun r n=>r.push (UInt8.ofNat n.toNat)) ByteArray.empty=⟨#[UInt8.ofNat a.toNat,UInt8.ofNat b.toNat]⟩:=rfl
theorem zRK (c:Ch) (w:World) (h:LibOk w) (hs:c.key.size≤200) (hv:c.val.size≤1000) (hc:ChOk c):Calls Tryz.prog 250 #[c.v] w fun e w'=>e=.returned (.tuple #[.string (zAZ c),errV 0])∧Ext w w':=by
 have hks:=zBQ hc.1;have hO:=zBX h;have hC:=fun w h=>zAu c w h (by omega) hv
 rw [zCj hc] at hC;try rw [show errV 0=.nilIface from rfl] at hC;obtain ⟨x,hx⟩:∃x,x=(⟨#[if c.gone then 1 else 0,UInt8.ofNat c.key.size]⟩:ByteArray):=⟨_,rfl⟩
 have hxs:x.size=2:=by rw [hx];rfl
 have hfin:zAZ c=x++c.key++c.val:=by rw [hx];rfl
 rw [hfin];clear hfin;have HX:=Lib.hid hx;clear hx hc;unfold Ch.v at *;obtain ⟨k,v,g⟩:=c;dsimp only at *;have hm:((k.size:Int) % 256)=k.size:=by omega
 cases g with
 | true=>
  have HY:(⟨#[UInt8.ofNat (1:Int).toNat,UInt8.ofNat (k.size:Int).toNat]⟩:ByteArray)=x:=HX.out.symm;go_enter Tryz.func250,Tryz.ntmps250;go_wp2_with (first|(go_at_call 149;(with_reducible apply Calls.mono (hC _ (Own.immOf (φ:=LibOk) hO pk_));refine cu_ ?_;clear hO;(try clear hf);intro w8 hO hf))|((refine zAX hO (r:=Var _ [.int .u8 1,.int .u8 (k.size:Int)] 5) pk_ rfl (.tmp 18) 244 9 5 rfl Tryz.underlying244 Tryz.intU8 Tryz.underlying9 _ 0 2 2 [1,(k.size:Int)] rfl rfl (fun j u hj=>Var.at (t:=5) (hO.factOf (r:=Var _ [.int .u8 1,.int .u8 (k.size:Int)] 5) pk_) j u hj) ?_;rw [zHp]);rw [HY])|(refine sq_ ?_;clear hO;(try clear hf);intro w9 hO hf));go_ret2;exact ⟨rfl,hO.toExt⟩
 | false=>
  have HY:(⟨#[UInt8.ofNat (0:Int).toNat,UInt8.ofNat (k.size:Int).toNat]⟩:ByteArray)=x:=HX.out.symm;go_enter Tryz.func250,Tryz.ntmps250;go_wp2_with (first|(go_at_call 149;(with_reducible apply Calls.mono (hC _ (Own.immOf (φ:=LibOk) hO pk_));refine cu_ ?_;clear hO;(try clear hf);intro w8 hO hf))|((refine zAX hO (r:=Var _ [.int .u8 0,.int .u8 (k.size:Int)] 5) pk_ rfl (.tmp 18) 244 9 5 rfl Tryz.underlying244 Tryz.intU8 Tryz.underlying9 _ 0 2 2 [0,(k.size:Int)] rfl rfl (fun j u hj=>Var.at (t:=5) (hO.factOf (r:=Var _ [.int .u8 0,.int .u8 (k.size:Int)] 5) pk_) j u hj) ?_;rw [zHp]);rw [HY])|(refine sq_ ?_;clear hO;(try clear hf);intro w9 hO hf));go_ret2;exact ⟨rfl,hO.toExt⟩
structure Reads3 (s:ByteArray) (c:Ch):Prop where
 h2:2≤s.size
 h0:(s[0]'(by omega)).toNat≤1
 h1:2+(s[1]'(by omega)).toNat≤s.size
 key:c.key=s.extract 2 (2+(s[1]'(by omega)).toNat)
 val:c.val=s.extract (2+(s[1]'(by omega)).toNat) s.size
 gone:c.gone=((s[0]'(by omega)).toNat==1)
theorem zRH (s:ByteArray) (c:Ch) (w:World) (h:LibOk w) (hs:s.size≤300) (hr:Reads3 s c) (hc:ChOk c):Calls Tryz.prog 223 #[.string s] w fun e w'=>e=.returned (.tuple #[c.v,.nilIface])∧Ext w w':=by
 have hx1:=zBQ hc.1;have hx2:=hc.2.2;have hO:=zBX h;have hC:=fun w h=>zAu c w h (by omega) (by omega)
 have h20:0<s.size:=by have:=hr.h2;omega
 have hg:c.gone=((s[0]'h20).toNat==1):=hr.gone;obtain ⟨h2,h0,h1,hk,hv,-⟩:=hr;rw [zCj hc] at hC;try rw [show errV 0=.nilIface from rfl] at hC;clear hx1 hx2;obtain ⟨k,v,g⟩:=c;dsimp only at hk hv hg;clear hc;unfold Ch.v at *;dsimp only at hC ⊢;subst hk;subst hv;have hz:(s[0]'h20).toNat=0∨(s[0]'h20).toNat=1:=by omega
 rcases hz with hz | hz
 ·rw [hz] at hg;obtain rfl:g=false:=hg;have HZ:=Lib.hid hz;clear hz;go_enter Tryz.func223,Tryz.ntmps223;go_wp2_with (refine sq_ ?_;clear hO;(try clear hf);intro w9 hO hf);have hz:=HZ.out;(refine rg_ hO ((0,0)::(0,1)::(0,2)::(0,3)::(0,4)::(0,5)::(0,6)::(0,7)::(0,8)::(0,9)::(4,10)::(5,11)::[]) ?_;clear hO;intro w9 hO;replace hf:=fa_ hO;(refine ss_ hO ?_;clear hO;(try clear hf);intro w9 hO hf));(refine zBt rfl ?_;intro K8 hK8;(repeat (first | go_skip | go_guarded | go_step));refine hK8 _ _ xt_ ?_;clear hK8 K8;with_reducible refine zAV hO ?_;clear hO;intro w9 hO;(replace hf:=fa_ hO));(refine zAE rfl ?_;intro K8 hK8;(repeat (first | go_skip | go_guarded | go_step));refine hK8 _ _ trivial ?_;clear hK8 K8;with_reducible apply zA0;(focus (exact st_ hO));clear hO;intro w9 hO;(try dsimp only [List.set] at hO);(replace hf:=fa_ hO));refine zAA ?_;go_wp2_with (first|(go_at_call 149;(with_reducible apply Calls.mono (hC _ (Own.immOf (φ:=LibOk) hO pk_));refine cu_ ?_;clear hO;(try clear hf);intro w8 hO hf))|(refine sq_ ?_;clear hO;(try clear hf);intro w9 hO hf));refine zAD rfl fun K hK=>?_;simp [results,Tryz.results223,go_sem,hf];exact hK _ ⟨rfl,hO.toExt⟩
 ·rw [hz] at hg;obtain rfl:g=true:=hg;have HZ:=Lib.hid hz;clear hz;go_enter Tryz.func223,Tryz.ntmps223;go_wp2_with (refine sq_ ?_;clear hO;(try clear hf);intro w9 hO hf);have hz:=HZ.out;(refine rg_ hO ((0,0)::(0,1)::(0,2)::(0,3)::(0,4)::(0,5)::(0,6)::(0,7)::(0,8)::(0,9)::(4,10)::(5,11)::[]) ?_;clear hO;intro w9 hO;replace hf:=fa_ hO;(refine ss_ hO ?_;clear hO;(try clear hf);intro w9 hO hf));(refine zBt rfl ?_;intro K8 hK8;(repeat (first | go_skip | go_guarded | go_step));refine hK8 _ _ xt_ ?_;clear hK8 K8;with_reducible refine zAV hO ?_;clear hO;intro w9 hO;(replace hf:=fa_ hO));(refine zAE rfl ?_;intro K8 hK8;(repeat (first | go_skip | go_guarded | go_step));refine hK8 _ _ trivial ?_;clear hK8 K8;with_reducible apply zA0;(focus (exact st_ hO));clear hO;intro w9 hO;(try dsimp only [List.set] at hO);(replace hf:=fa_ hO));refine zAA ?_;go_wp2_with (first|(go_at_call 149;(with_reducible apply Calls.mono (hC _ (Own.immOf (φ:=LibOk) hO pk_));refine cu_ ?_;clear hO;(try clear hf);intro w8 hO hf))|(refine sq_ ?_;clear hO;(try clear hf);intro w9 hO hf));refine zAD rfl fun K hK=>?_;simp [results,Tryz.results223,go_sem,hf];exact hK _ ⟨rfl,hO.toExt⟩
theorem zQ0 (s:ByteArray) (c:Ch) (w:World) (h:LibOk w) (hs:s.size≤300) (hr:Reads3 s c) (hc:¬ChOk c):Calls Tryz.prog 223 #[.string s] w fun e w'=>e=.returned (.tuple #[.agg #[.string ⟨#[]⟩,.string ⟨#[]⟩,.bool false],errV 4])∧Ext w w':=by
 have hx1:c.key.size≤300:=by rw [hr.key,ByteArray.size_extract];omega
 have hx2:c.val.size≤1000:=by rw [hr.val,ByteArray.size_extract];omega
 have hO:=zBX h;have hC:=fun w h=>zAu c w h hx1 hx2
 have h20:0<s.size:=by have:=hr.h2;omega
 have hg:c.gone=((s[0]'h20).toNat==1):=hr.gone;obtain ⟨h2,h0,h1,hk,hv,-⟩:=hr;obtain ⟨m,hm⟩:∃m,chN c=m+1:=⟨chN c-1,by have:chN c≠0:=fun e=>hc (zDy.1 e);omega⟩
 rw [hm] at hC;try rw [show errV (m+1)=.iface 124 (.int .i64 ((m+1:Nat):Int)) from rfl] at hC;rw [show (errV 4:Value)=.iface 124 (.int .i64 4) from rfl];clear hx1 hx2 hm;obtain ⟨k,v,g⟩:=c;dsimp only at hk hv hg;clear hc;unfold Ch.v at *;dsimp only at hC ⊢;subst hk;subst hv;have hz:(s[0]'h20).toNat=0∨(s[0]'h20).toNat=1:=by omega
 rcases hz with hz | hz
 ·rw [hz] at hg;obtain rfl:g=false:=hg;have HZ:=Lib.hid hz;clear hz;go_enter Tryz.func223,Tryz.ntmps223;go_wp2_with (refine sq_ ?_;clear hO;(try clear hf);intro w9 hO hf);have hz:=HZ.out;(refine rg_ hO ((0,0)::(0,1)::(0,2)::(0,3)::(0,4)::(0,5)::(0,6)::(0,7)::(0,8)::(0,9)::(4,10)::(5,11)::[]) ?_;clear hO;intro w9 hO;replace hf:=fa_ hO;(refine ss_ hO ?_;clear hO;(try clear hf);intro w9 hO hf));(refine zBt rfl ?_;intro K8 hK8;(repeat (first | go_skip | go_guarded | go_step));refine hK8 _ _ xt_ ?_;clear hK8 K8;with_reducible refine zAV hO ?_;clear hO;intro w9 hO;(replace hf:=fa_ hO));(refine zAE rfl ?_;intro K8 hK8;(repeat (first | go_skip | go_guarded | go_step));refine hK8 _ _ trivial ?_;clear hK8 K8;with_reducible apply zA0;(focus (exact st_ hO));clear hO;intro w9 hO;(try dsimp only [List.set] at hO);(replace hf:=fa_ hO));refine zAA ?_;go_wp2_with (first|(go_at_call 149;(with_reducible apply Calls.mono (hC _ (Own.immOf (φ:=LibOk) hO pk_));refine cu_ ?_;clear hO;(try clear hf);intro w8 hO hf))|(refine sq_ ?_;clear hO;(try clear hf);intro w9 hO hf));all_goals first|(refine zAD rfl fun K hK=>?_;simp [results,Tryz.results223,go_sem,hf];exact hK _ ⟨rfl,hO.toExt⟩;done)|(exfalso;omega)
 ·rw [hz] at hg;obtain rfl:g=true:=hg;have HZ:=Lib.hid hz;clear hz;go_enter Tryz.func223,Tryz.ntmps223;go_wp2_with (refine sq_ ?_;clear hO;(try clear hf);intro w9 hO hf);have hz:=HZ.out;(refine rg_ hO ((0,0)::(0,1)::(0,2)::(0,3)::(0,4)::(0,5)::(0,6)::(0,7)::(0,8)::(0,9)::(4,10)::(5,11)::[]) ?_;clear hO;intro w9 hO;replace hf:=fa_ hO;(refine ss_ hO ?_;clear hO;(try clear hf);intro w9 hO hf));(refine zBt rfl ?_;intro K8 hK8;(repeat (first | go_skip | go_guarded | go_step));refine hK8 _ _ xt_ ?_;clear hK8 K8;with_reducible refine zAV hO ?_;clear hO;intro w9 hO;(replace hf:=fa_ hO));(refine zAE rfl ?_;intro K8 hK8;(repeat (first | go_skip | go_guarded | go_step));refine hK8 _ _ trivial ?_;clear hK8 K8;with_reducible apply zA0;(focus (exact st_ hO));clear hO;intro w9 hO;(try dsimp only [List.set] at hO);(replace hf:=fa_ hO));refine zAA ?_;go_wp2_with (first|(go_at_call 149;(with_reducible apply Calls.mono (hC _ (Own.immOf (φ:=LibOk) hO pk_));refine cu_ ?_;clear hO;(try clear hf);intro w8 hO hf))|(refine sq_ ?_;clear hO;(try clear hf);intro w9 hO hf));all_goals first|(refine zAD rfl fun K hK=>?_;simp [results,Tryz.results223,go_sem,hf];exact hK _ ⟨rfl,hO.toExt⟩;done)|(exfalso;omega)
theorem zPl (s:ByteArray) (w:World) (h:LibOk w) (hs:s.size≤300) (hr:¬∃c,Reads3 s c):Calls Tryz.prog 223 #[.string s] w fun e w'=>e=.returned (.tuple #[.agg #[.string ⟨#[]⟩,.string ⟨#[]⟩,.bool false],errV 4])∧Ext w w':=by
 rw [show (errV 4:Value)=.iface 124 (.int .i64 4) from rfl];have hO:=Own.start w (fun _=>False);by_cases h2:2≤s.size
 ·have h01:¬((s[0]'(by omega)).toNat≤1∧2+(s[1]'(by omega)).toNat≤s.size):=fun ⟨h0,h1⟩=>hr ⟨⟨s.extract 2 (2+(s[1]'(by omega)).toNat),s.extract (2+(s[1]'(by omega)).toNat) s.size,(s[0]'(by omega)).toNat==1⟩,⟨h2,h0,h1,rfl,rfl,rfl⟩⟩
  clear hr;have hb:(s[1]'(by omega)).toNat<256:=UInt8.toNat_lt _;by_cases h0:(s[0]'(by omega)).toNat≤1
  ·have h1:¬2+(s[1]'(by omega)).toNat≤s.size:=fun h=>h01 ⟨h0,h⟩
   clear h01;go_enter Tryz.func223,Tryz.ntmps223;go_wp2_with (refine sq_ ?_;clear hO;(try clear hf);intro w9 hO hf);all_goals first|(refine zAD rfl fun K hK=>?_;simp [results,Tryz.results223,go_sem,hf];exact hK _ ⟨rfl,hO.toExt⟩;done)|(exfalso;omega)
  ·clear h01;go_enter Tryz.func223,Tryz.ntmps223;go_wp2_with (refine sq_ ?_;clear hO;(try clear hf);intro w9 hO hf);all_goals first|(refine zAD rfl fun K hK=>?_;simp [results,Tryz.results223,go_sem,hf];exact hK _ ⟨rfl,hO.toExt⟩;done)|(exfalso;omega)
 ·clear hr;go_enter Tryz.func223,Tryz.ntmps223;go_wp2_with (refine sq_ ?_;clear hO;(try clear hf);intro w9 hO hf);all_goals first|(refine zAD rfl fun K hK=>?_;simp [results,Tryz.results223,go_sem,hf];exact hK _ ⟨rfl,hO.toExt⟩;done)|(exfalso;omega)
theorem zTl (x y z:ByteArray) (hx:(32:UInt8)∉x.data.toList) (hy:(32:UInt8)∉y.data.toList) (hz:(32:UInt8)∉z.data.toList) (w:World) (h:LibOk w) (hs:(x++sp++(y++sp++z)).size≤1000) :
 Calls Tryz.prog 184 #[.string (x++sp++(y++sp++z)),.string ⟨#[32]⟩] w fun e w'=>e=.returned (.slice (some ⟨w.heap.size,0,none⟩) 3 3)∧w'=w.alloc (.cells [Value.string x,.string y,.string z].toArray 9):=by
 obtain ⟨m,hm⟩:=h.max;have hc:Lib.countB (x++sp++(y++sp++z)) sp=2:=by
  rw [zEc _ _ hx,zEc _ _ hy,Lib.countB_miss _ _ (zDE z hz)]
 have h1:=Tryz.strings_Split (x++sp++(y++sp++z)) sp m w (by omega) hm (by decide);rw [hc,zCK _ _ _ hx,zCK _ _ _ hy] at h1;exact h1
theorem zOg (x y z:ByteArray) (hx:(32:UInt8)∉x.data.toList) (hy:(32:UInt8)∉y.data.toList) (w:World) (h:LibOk w) (hs:(x++sp++(y++sp++z)).size≤1000) :
 Calls Tryz.prog 188 #[.string (x++sp++(y++sp++z)),.string ⟨#[32]⟩,.int .i64 3] w fun e w'=>e=.returned (.slice (some ⟨w.heap.size,0,none⟩) 3 3)∧w'=w.alloc (.cells [Value.string x,.string y,.string z].toArray 9):=by
 obtain ⟨m,hm⟩:=h.max;have h1:=Tryz.strings_SplitN (x++sp++(y++sp++z)) sp 3 m w (by omega) hm (by decide) (by decide) (by decide);have hsz:(x++sp++(y++sp++z)).size=x.size+1+(y.size+1+z.size):=by
  rw [ByteArray.size_append,ByteArray.size_append,ByteArray.size_append,ByteArray.size_append];rfl
 rw [show min 3 ((x++sp++(y++sp++z)).size+1)=3 from by rw [hsz];omega,show 3-1=1+1 from rfl,zCK _ _ _ hx,zCK _ _ _ hy,Lib.splitB_zero] at h1;exact h1
theorem zK3 (a b:Nat) (d:ByteArray) (w:World) (h:LibOk w) (ha:a≤999999) (hb1:1≤b) (hb2:b≤9) (hd:d.size=0∨zAN d) (hds:d.size≤50) :
 Calls Tryz.prog 175 #[.string (rowS a b d)] w fun e w'=>e=.returned (.tuple #[.agg #[.int .i64 a,.int .i64 b,.string d],.nilIface])∧Ext w w':=by
 have hO:=zBX h;have hs1:=zAR 6 a (by omega);have hs2:=zAR 6 b (by omega);have hsz:=zFE a b d;have hnz:(32:UInt8)∉d.data.toList:=by
  rcases hd with hd | hd
  ·intro hm;have:d.data.toList.length=0:=by simpa using hd
   rw [List.length_eq_zero_iff.1 this] at hm;cases hm
  ·exact zQg hd
 have HSP:=fun w h=>zTl (zAM a) (zAM b) d (zEW a) (zEW b) hnz w h (by show (rowS a b d).size≤1000;omega)
 have HA1:=fun w h=>zEC a 999999 w h (by omega) (by omega)
 have HA2:=fun w h=>zEC b 9 w h (by omega) (by omega)
 change ∀w,LibOk w→Calls Tryz.prog 184 #[.string (rowS a b d),.string ⟨#[32]⟩] w _ at HSP;generalize rowS a b d=fin at *;generalize zAM (a:Int)=s1 at *;generalize zAM (b:Int)=s2 at *;have hdl:d.toList.length=d.size:=by rw [ByteArray.toList_eq];rfl
 by_cases hd0:d.size=0
 ·have hd1:d.toList=[]:=List.length_eq_zero_iff.1 (by omega);go_enter Tryz.func175,Tryz.ntmps175;go_wp2_with (first|(go_at_call 184;(with_reducible apply Calls.mono (HSP _ (Own.immOf (φ:=LibOk) hO pk_));rintro e8 w8 ⟨rfl,rfl⟩;dsimp only))|(go_at_call 230;(with_reducible apply Calls.mono (HA1 _ (Own.immOf (φ:=LibOk) hO pk_));refine cu_ ?_;clear hO;(try clear hf);intro w8 hO hf))|(go_at_call 230;(with_reducible apply Calls.mono (HA2 _ (Own.immOf (φ:=LibOk) hO pk_));refine cu_ ?_;clear hO;(try clear hf);intro w8 hO hf))|(refine sq_ ?_;clear hO;(try clear hf);intro w9 hO hf));refine zAD rfl fun K hK=>?_;simp [results,Tryz.results175,go_sem,hf];exact hK _ ⟨rfl,hO.toExt⟩
 ·have hd1:¬d.toList=[]:=fun e=>hd0 (by rw [←hdl,e];rfl)
  have HN1:=fun w=>zDN d w (by omega)
  rw [decide_eq_true (hd.resolve_left hd0)] at HN1;go_enter Tryz.func175,Tryz.ntmps175;go_wp2_with (first|(go_at_call 184;(with_reducible apply Calls.mono (HSP _ (Own.immOf (φ:=LibOk) hO pk_));rintro e8 w8 ⟨rfl,rfl⟩;dsimp only))|(go_at_call 230;(with_reducible apply Calls.mono (HA1 _ (Own.immOf (φ:=LibOk) hO pk_));refine cu_ ?_;clear hO;(try clear hf);intro w8 hO hf))|(go_at_call 230;(with_reducible apply Calls.mono (HA2 _ (Own.immOf (φ:=LibOk) hO pk_));refine cu_ ?_;clear hO;(try clear hf);intro w8 hO hf))|(go_at_call 173;(with_reducible apply Calls.mono (HN1 _);rintro e8 w8 ⟨rfl,rfl⟩;dsimp only))|(refine sq_ ?_;clear hO;(try clear hf);intro w9 hO hf));all_goals first|(refine zAD rfl fun K hK=>?_;simp [results,Tryz.results175,go_sem,hf];exact hK _ ⟨rfl,hO.toExt⟩;done)|(exfalso;simp_all;done)
theorem zIj (n:Int) (a b:Nat) (d:ByteArray) (w:World) (h:LibOk w) (ha:a≤9) (hb2:b≤2000000) (hds:d.size≤28) :
 Calls Tryz.prog 181 #[.int .i64 n,.string (rowS a b d)] w fun e w'=>e=.returned (.tuple #[.agg #[.int .i64 n,.int .i64 a,.int .i64 b,.string d],.nilIface])∧Ext w w':=by
 have hO:=zBX h;have hs1:=zAR 6 a (by omega);have hs2:=zAR 6 b (by omega);have hsz:=zFE a b d;have HSP:=fun w h=>zOg (zAM a) (zAM b) d (zEW a) (zEW b) w h (by show (rowS a b d).size≤1000;omega)
 have HA1:=fun w h=>zEC a 9 w h (by omega) (by omega)
 have HA2:=fun w h=>zEC b 2000000 w h (by omega) (by omega)
 change ∀w,LibOk w→Calls Tryz.prog 188 #[.string (rowS a b d),.string ⟨#[32]⟩,.int .i64 3] w _ at HSP;generalize rowS a b d=fin at *;generalize zAM (a:Int)=s1 at *;generalize zAM (b:Int)=s2 at *;go_enter Tryz.func181,Tryz.ntmps181;go_wp2_with (first|(go_at_call 188;(with_reducible apply Calls.mono (HSP _ (Own.immOf (φ:=LibOk) hO pk_));rintro e8 w8 ⟨rfl,rfl⟩;dsimp only))|(go_at_call 230;(with_reducible apply Calls.mono (HA1 _ (Own.immOf (φ:=LibOk) hO pk_));refine cu_ ?_;clear hO;(try clear hf);intro w8 hO hf))|(go_at_call 230;(with_reducible apply Calls.mono (HA2 _ (Own.immOf (φ:=LibOk) hO pk_));refine cu_ ?_;clear hO;(try clear hf);intro w8 hO hf))|(refine sq_ ?_;clear hO;(try clear hf);intro w9 hO hf));all_goals first|(refine zAD rfl fun K hK=>?_;simp [results,Tryz.results181,go_sem,hf];exact hK _ ⟨rfl,hO.toExt⟩;done)|(exfalso;omega)|(exfalso;simp_all;done)
theorem Tryz.infoStr:(Tryz.prog.info? 9).map (fun i=>(i.zero,i.size,i.bytes))=some (some (.string ⟨#[]⟩),1,16):=by kernel_rfl
theorem zF1 (s:ByteArray):(32:UInt8)∉s.data.toList∨∃x r:ByteArray,s=x++sp++r∧(32:UInt8)∉x.data.toList∧r.size<s.size:=by
 by_cases h:(32:UInt8)∈s.data.toList
 ·right;obtain ⟨a,b,e,h1⟩:=List.eq_append_cons_of_mem h;refine ⟨⟨a.toArray⟩,⟨b.toArray⟩,zAS (by rw [zAB,zAB,e,List.append_assoc];rfl),by simpa using h1,?_⟩;have:s.data.toList.length=s.size:=by simp
  show b.toArray.size<s.size;rw [←this,e];simp;omega
 ·exact .inl h
def zB8 (s:ByteArray):List ByteArray:=Lib.splitB sp 0 (Lib.countB s sp) s
theorem zCI (k:Nat) (s:ByteArray) (h:(32:UInt8)∉s.data.toList):Lib.splitB sp 0 k s=[s]:=Lib.splitB_miss _ _ _ _ (zDE s h)
theorem zIr:∀(m:Nat) (s:ByteArray) (k:Nat),s.size≤m→(Lib.countB s sp≤k→Lib.splitB sp 0 k s=zB8 s)∧(k≤Lib.countB s sp→(Lib.splitB sp 0 k s).length=k+1):=by
 intro m
 induction m with
 | zero=>
  intro s k hm;rcases zF1 s with h | ⟨x,r,rfl,hx,hr⟩
  ·refine ⟨fun _=>by unfold zB8;rw [zCI _ _ h,zCI _ _ h],fun hk=>?_⟩;rw [Lib.countB_miss _ _ (zDE s h)] at hk;rw [zCI _ _ h,List.length_singleton];omega
  ·omega
 | succ m ih=>
  intro s k hm;rcases zF1 s with h | ⟨x,r,rfl,hx,hr⟩
  ·refine ⟨fun _=>by unfold zB8;rw [zCI _ _ h,zCI _ _ h],fun hk=>?_⟩;rw [Lib.countB_miss _ _ (zDE s h)] at hk;rw [zCI _ _ h,List.length_singleton];omega
  ·have ih1:=fun k=>ih r k (by omega)
   unfold zB8;rw [zEc _ _ hx];cases k with
   | zero=>exact ⟨fun h=>by omega,fun _=>by rw [Lib.splitB_zero];rfl⟩
   | succ k=>
    rw [zCK _ _ _ hx,Nat.add_comm 1,zCK _ _ _ hx];exact ⟨fun h=>by rw [(ih1 k).1 (by omega)];rfl,fun h=>by rw [List.length_cons,(ih1 k).2 (by omega)]⟩
theorem zKI (s:ByteArray) (k:Nat) (h:Lib.countB s sp≤k):Lib.splitB sp 0 k s=zB8 s:=(zIr _ s k (Nat.le_refl _)).1 h
theorem zFn (s:ByteArray) (k:Nat) (h:k≤Lib.countB s sp):(Lib.splitB sp 0 k s).length=k+1:=(zIr _ s k (Nat.le_refl _)).2 h
theorem zMW (s x y z:ByteArray) (h:zB8 s=[x,y,z]):s=x++sp++(y++sp++z)∧(32:UInt8)∉x.data.toList∧(32:UInt8)∉y.data.toList∧(32:UInt8)∉z.data.toList:=by
 have h1:=zN0 s;rw [show Lib.splitB sp 0 (Lib.countB s sp) s=_ from h] at h1;obtain ⟨h2,h3⟩:=(zTk _ _ _ _).1 h1.symm;exact ⟨zAS (by rw [zAB,zAB,zAB,zAB,h2,List.append_assoc,List.append_assoc];rfl),h3⟩
theorem zLM (s x y z:ByteArray) (h:Lib.splitB sp 0 2 s=[x,y,z]):s=x++sp++(y++sp++z)∧(32:UInt8)∉x.data.toList∧(32:UInt8)∉y.data.toList:=by
 rcases zF1 s with h1 | ⟨a,r,rfl,ha,hr⟩
 ·rw [zCI _ _ h1] at h;simp at h
 ·rw [zCK _ _ _ ha] at h;rcases zF1 r with h1 | ⟨b,r',rfl,hb,hr'⟩
  ·rw [zCI _ _ h1] at h;simp at h
  ·rw [zCK _ _ _ hb,Lib.splitB_zero] at h;injection h with h1 h
   injection h with h2 h
   injection h with h3 h
   subst h1;subst h2;subst h3;exact ⟨rfl,ha,hb⟩
theorem zRx (s:ByteArray) (v:Int) (hv:zCr s=some v):-9223372036854775808≤v∧v≤9223372036854775807:=by
 unfold zCr at hv;split at hv
 ·injection hv with hv
  subst hv;rename_i h;unfold Lib.atoiAll at h;cases hl:s.data.toList with
  | nil=>rw [hl] at h;cases h
  | cons c r=>
   rw [hl] at h;dsimp only at h;split at h
   ·cases h
   ·cases h
   ·split at h
    ·cases h
    ·split at h
     ·cases h
     ·injection h with h
      rw [←h];split<;>omega
 ·cases hv
theorem zEM (s:ByteArray) (most:Int) (w:World) (h:LibOk w) (hs:s.size≤200) (hm:most≤2000000) (hno:¬∃n,zFj s most.toNat n):Calls Tryz.prog 230 #[.string s,.int .i64 most] w fun e w'=>(∃x,e=.returned (.tuple #[.int .i64 x,.bool false]))∧Ext w w':=by
 have hx:=Ext.refl w;cases hv:zCr s with
 | none=>
  have HA:=fun w h=>zOV s w h (by omega) hv
  go_enter Tryz.func230,Tryz.ntmps230;go_wp2_with (go_at_call 194;(with_reducible apply Calls.mono (HA _ h);rintro e8 w8 ⟨⟨x8,N8,rfl⟩,hx8⟩;replace h:=h.ext hx8;replace hx:=hx.trans hx8;clear hx8;dsimp only));go_ret2;exact ⟨⟨x8,rfl⟩,hx⟩
 | some v=>
  obtain ⟨hv1,hv2⟩:=zRx s v hv;have HA:=fun w (h:LibOk w)=>zJl s v w (by omega) hv
  have HI:=fun w (h:LibOk w)=>zDQ v w h hv1 hv2
  have hc:((zAM v).toList==s.toList)=false∨v<0∨most<v:=by
   by_cases h1:v<0∨most<v
   ·exact .inr h1
   ·left;refine zEo (fun e=>hno ⟨v.toNat,by omega,?_⟩);rw [←e,show ((v.toNat:Nat):Int)=v from by omega]
  clear hno;generalize zAM v=y at *;go_enter Tryz.func230,Tryz.ntmps230;rcases hc with hc | hc
  ·go_wp2_with (first|(go_at_call 194;(with_reducible apply Calls.mono (HA _ h);rintro e8 w8 ⟨rfl,hx8⟩;replace h:=h.ext hx8;replace hx:=hx.trans hx8;clear hx8;dsimp only))|(go_at_call 233;(with_reducible apply Calls.mono (HI _ h);rintro e8 w8 ⟨rfl,hx8⟩;replace h:=h.ext hx8;replace hx:=hx.trans hx8;clear hx8;dsimp only)));all_goals first|(exfalso;omega)|(go_ret2;exact ⟨⟨v,rfl⟩,hx⟩)
  ·go_wp2_with (first|(go_at_call 194;(with_reducible apply Calls.mono (HA _ h);rintro e8 w8 ⟨rfl,hx8⟩;replace h:=h.ext hx8;replace hx:=hx.trans hx8;clear hx8;dsimp only))|(go_at_call 233;(with_reducible apply Calls.mono (HI _ h);rintro e8 w8 ⟨rfl,hx8⟩;replace h:=h.ext hx8;replace hx:=hx.trans hx8;clear hx8;dsimp only)));all_goals first|(exfalso;omega)|(go_ret2;exact ⟨⟨v,rfl⟩,hx⟩)|(go_ret2;refine ⟨⟨v,?_⟩,hx⟩;simp;omega)
def QRow (s:ByteArray) (a b:Nat) (d:ByteArray):Prop:=s=rowS a b d∧a≤999999∧1≤b∧b≤9∧(d.size=0∨zAN d)
def MRow (s:ByteArray) (a b:Nat) (d:ByteArray):Prop:=s=rowS a b d∧a≤9∧b≤2000000∧d.size≤28
theorem zR1 (s:ByteArray) (w:World) (h:LibOk w) (hs:s.size≤1000) :
 Calls Tryz.prog 184 #[.string s,.string ⟨#[32]⟩] w fun e w'=>e=.returned (.slice (some ⟨w.heap.size,0,none⟩) (zB8 s).length (zB8 s).length)∧w'=w.alloc (.cells ((zB8 s).map .string).toArray 9):=by
 obtain ⟨m,hm⟩:=h.max;have h1:=Tryz.strings_Split s sp m w (by omega) hm (by decide);rw [←zFn s _ (Nat.le_refl _)] at h1;exact h1
theorem zST (s:ByteArray):(zB8 s).length≠3∨∃x y z,zB8 s=[x,y,z]:=by
 by_cases h:(zB8 s).length=3
 ·right
  match hw:zB8 s,h with
  | [x,y,z],_=>exact ⟨x,y,z,rfl⟩
 ·exact .inl h
theorem zEf (s:ByteArray) (most:Int) (n:Nat) (w:World) (h:LibOk w) (hm:most≤2000000) (hn:zFj s most.toNat n) (h0:0≤most):Calls Tryz.prog 230 #[.string s,.int .i64 most] w fun e w'=>e=.returned (.tuple #[.int .i64 n,.bool true])∧Ext w w':=by
 rw [hn.2];exact zEC n most w h (by have:=hn.1;omega) hm
theorem zHc (s:ByteArray) (most:Int) (w:World) (h:LibOk w) (hs:s.size≤200) (h0:0≤most) (hm:most≤2000000):Calls Tryz.prog 230 #[.string s,.int .i64 most] w fun e w'=>(∃x b,e=.returned (.tuple #[.int .i64 x,.bool b]))∧Ext w w':=by
 by_cases hn:∃n,zFj s most.toNat n
 ·obtain ⟨n,hn⟩:=hn;exact (zEf s most n w h hm hn h0).mono fun e w' ⟨he,hx⟩=>⟨⟨_,_,he⟩,hx⟩
 ·exact (zEM s most w h hs hm hn).mono fun e w' ⟨⟨x,he⟩,hx⟩=>⟨⟨_,_,he⟩,hx⟩
theorem zHX (s x y z:ByteArray) (h:s=x++sp++(y++sp++z)):x.size≤s.size∧y.size≤s.size∧z.size≤s.size:=by
 have:s.size=x.size+1+(y.size+1+z.size):=by
  rw [h,ByteArray.size_append,ByteArray.size_append,ByteArray.size_append,ByteArray.size_append];rfl
 omega
theorem zKv (s:ByteArray) (w:World) (h:LibOk w) (hs:s.size≤200) (hno:¬∃a b d,QRow s a b d) :
 Calls Tryz.prog 175 #[.string s] w fun e w'=>e=.returned (.tuple #[.agg #[.int .i64 0,.int .i64 0,.string ⟨#[]⟩],.iface 124 (.int .i64 4)])∧Ext w w':=by
 have hO:=zBX h;have HSP:=fun w h=>zR1 s w h (by omega)
 rcases zST s with hw | ⟨x,y,z,hw⟩
 ·have hl:(((zB8 s).length:Int)==3)=false:=by simp;omega
  clear hno hw;generalize zB8 s=l at *;generalize l.length=n at *;go_enter Tryz.func175,Tryz.ntmps175;go_wp2_with (first|(go_at_call 184;(with_reducible apply Calls.mono (HSP _ (Own.immOf (φ:=LibOk) hO pk_));rintro e8 w8 ⟨rfl,rfl⟩;dsimp only))|(refine sq_ ?_;clear hO;(try clear hf);intro w9 hO hf));refine zAD rfl fun K hK=>?_;simp [results,Tryz.results175,go_sem,hf];exact hK _ ⟨rfl,hO.toExt⟩
 ·obtain ⟨he,_,_,_⟩:=zMW s x y z hw;obtain ⟨sx,sy,sz⟩:=zHX s x y z he;rw [hw] at HSP;dsimp only [List.length_cons,List.length_nil,List.map_cons,List.map_nil] at HSP;by_cases hX:∃n,zFj x 999999 n
  ·obtain ⟨a,ha⟩:=hX;have HA1:=fun w h=>zEf x 999999 a w h (by omega) ha (by omega)
   by_cases hY:∃n,zFj y 9 n
   ·obtain ⟨b,hb⟩:=hY;have HA2:=fun w h=>zEf y 9 b w h (by omega) hb (by omega)
    by_cases hb1:1≤b
    ·have hz:¬(z.size=0∨zAN z):=fun hz=>hno ⟨a,b,z,by rw [he,ha.2,hb.2];rfl,ha.1,hb1,hb.1,hz⟩
     have hdl:z.toList.length=z.size:=by rw [ByteArray.toList_eq];rfl
     have hz1:¬z.toList=[]:=fun e=>hz (.inl (by rw [←hdl,e];rfl))
     have HN1:=fun w=>zDN z w (by omega)
     rw [decide_eq_false (fun h=>hz (.inr h))] at HN1;clear hno hz he;go_enter Tryz.func175,Tryz.ntmps175;go_wp2_with (first|(go_at_call 184;(with_reducible apply Calls.mono (HSP _ (Own.immOf (φ:=LibOk) hO pk_));rintro e8 w8 ⟨rfl,rfl⟩;dsimp only))|(go_at_call 230;(with_reducible apply Calls.mono (HA1 _ (Own.immOf (φ:=LibOk) hO pk_));refine cu_ ?_;clear hO;(try clear hf);intro w8 hO hf))|(go_at_call 230;(with_reducible apply Calls.mono (HA2 _ (Own.immOf (φ:=LibOk) hO pk_));refine cu_ ?_;clear hO;(try clear hf);intro w8 hO hf))|(go_at_call 173;(with_reducible apply Calls.mono (HN1 _);rintro e8 w8 ⟨rfl,rfl⟩;dsimp only))|(refine sq_ ?_;clear hO;(try clear hf);intro w9 hO hf));all_goals first|(refine zAD rfl fun K hK=>?_;simp [results,Tryz.results175,go_sem,hf];exact hK _ ⟨rfl,hO.toExt⟩;done)|(exfalso;omega)|(exfalso;simp_all;done)
    ·clear hno he;go_enter Tryz.func175,Tryz.ntmps175;go_wp2_with (first|(go_at_call 184;(with_reducible apply Calls.mono (HSP _ (Own.immOf (φ:=LibOk) hO pk_));rintro e8 w8 ⟨rfl,rfl⟩;dsimp only))|(go_at_call 230;(with_reducible apply Calls.mono (HA1 _ (Own.immOf (φ:=LibOk) hO pk_));refine cu_ ?_;clear hO;(try clear hf);intro w8 hO hf))|(go_at_call 230;(with_reducible apply Calls.mono (HA2 _ (Own.immOf (φ:=LibOk) hO pk_));refine cu_ ?_;clear hO;(try clear hf);intro w8 hO hf))|(refine sq_ ?_;clear hO;(try clear hf);intro w9 hO hf));all_goals first|(refine zAD rfl fun K hK=>?_;simp [results,Tryz.results175,go_sem,hf];exact hK _ ⟨rfl,hO.toExt⟩;done)|(exfalso;omega)|(exfalso;simp_all;done)
   ·have HA2:=fun w h=>zEM y 9 w h (by omega) (by omega) hY
    clear hno he;go_enter Tryz.func175,Tryz.ntmps175;go_wp2_with (first|(go_at_call 184;(with_reducible apply Calls.mono (HSP _ (Own.immOf (φ:=LibOk) hO pk_));rintro e8 w8 ⟨rfl,rfl⟩;dsimp only))|(go_at_call 230;(with_reducible apply Calls.mono (HA1 _ (Own.immOf (φ:=LibOk) hO pk_));refine cu_ ?_;clear hO;(try clear hf);intro w8 hO hf))|(go_at_call 230;(with_reducible apply Calls.mono (HA2 _ (Own.immOf (φ:=LibOk) hO pk_));rintro e8 w8 ⟨⟨x8,rfl⟩,hx8⟩;replace hO:=hO.ext hx8;clear hx8;dsimp only;(replace hf:=fa_ hO)))|(refine sq_ ?_;clear hO;(try clear hf);intro w9 hO hf));all_goals first|(refine zAD rfl fun K hK=>?_;simp [results,Tryz.results175,go_sem,hf];exact hK _ ⟨rfl,hO.toExt⟩;done)|(exfalso;omega)|(exfalso;simp_all;done)
  ·have HA1:=fun w h=>zEM x 999999 w h (by omega) (by omega) hX
   have HA2:=fun w h=>zHc y 9 w h (by omega) (by omega) (by omega)
   clear hno he;go_enter Tryz.func175,Tryz.ntmps175;go_wp2_with (first|(go_at_call 184;(with_reducible apply Calls.mono (HSP _ (Own.immOf (φ:=LibOk) hO pk_));rintro e8 w8 ⟨rfl,rfl⟩;dsimp only))|(go_at_call 230;(with_reducible apply Calls.mono (HA1 _ (Own.immOf (φ:=LibOk) hO pk_));rintro e8 w8 ⟨⟨x8,rfl⟩,hx8⟩;replace hO:=hO.ext hx8;clear hx8;dsimp only;(replace hf:=fa_ hO)))|(go_at_call 230;(with_reducible apply Calls.mono (HA2 _ (Own.immOf (φ:=LibOk) hO pk_));rintro e8 w8 ⟨⟨x8,b8,rfl⟩,hx8⟩;replace hO:=hO.ext hx8;clear hx8;dsimp only;(replace hf:=fa_ hO)))|(refine sq_ ?_;clear hO;(try clear hf);intro w9 hO hf));all_goals first|(refine zAD rfl fun K hK=>?_;simp [results,Tryz.results175,go_sem,hf];exact hK _ ⟨rfl,hO.toExt⟩;done)|(exfalso;omega)|(exfalso;simp_all;done)
theorem zSJ (s:ByteArray):(Lib.splitB sp 0 2 s).length≠3∨∃x y z,Lib.splitB sp 0 2 s=[x,y,z]:=by
 by_cases h:(Lib.splitB sp 0 2 s).length=3
 ·right
  match hw:Lib.splitB sp 0 2 s,h with
  | [x,y,z],_=>exact ⟨x,y,z,rfl⟩
 ·exact .inl h
theorem zOs (s:ByteArray) (w:World) (h:LibOk w) (hs:s.size≤1000) (hl:(Lib.splitB sp 0 2 s).length≠3) :
 Calls Tryz.prog 188 #[.string s,.string ⟨#[32]⟩,.int .i64 3] w fun e w'=>∃(n c:Nat) (cs:Array Value),n≠3∧e=.returned (.slice (some ⟨w.heap.size,0,none⟩) n c)∧w'=w.alloc (.cells cs 9):=by
 obtain ⟨m,hm⟩:=h.max;have h1:=Tryz.strings_SplitN s sp 3 m w (by omega) hm (by decide) (by decide) (by decide);refine h1.mono fun e w' ⟨he,hw⟩=>⟨_,_,_,?_,he,hw⟩
 have hc:Lib.countB s sp<2:=by
  rcases Nat.lt_or_ge (Lib.countB s sp) 2 with h | h
  ·exact h
  ·exact absurd (zFn s 2 h) hl
 intro h3;rcases Nat.le_total (min 3 (s.size+1)-1) (Lib.countB s sp) with h4 | h4
 ·rw [zFn s _ h4] at h3;omega
 ·rw [zKI s _ h4,←zKI s 2 (by omega)] at h3;exact hl h3
theorem zJD (n:Int) (s:ByteArray) (w:World) (h:LibOk w) (hs:s.size≤200) (hno:¬∃a b d,MRow s a b d) :
 Calls Tryz.prog 181 #[.int .i64 n,.string s] w fun e w'=>e=.returned (.tuple #[.agg #[.int .i64 0,.int .i64 0,.int .i64 0,.string ⟨#[]⟩],.iface 124 (.int .i64 4)])∧Ext w w':=by
 have hO:=zBX h;rcases zSJ s with hw | ⟨x,y,z,hw⟩
 ·have HSP:=fun w h=>zOs s w h (by omega) hw
  clear hno hw;go_enter Tryz.func181,Tryz.ntmps181;go_wp2_with (first|(go_at_call 188;(with_reducible apply Calls.mono (HSP _ (Own.immOf (φ:=LibOk) hO pk_));rintro e8 w8 ⟨n8,c8,cs8,hn8,rfl,rfl⟩;dsimp only))|(refine sq_ ?_;clear hO;(try clear hf);intro w9 hO hf));all_goals first|(refine zAD rfl fun K hK=>?_;simp [results,Tryz.results181,go_sem,hf];exact hK _ ⟨rfl,hO.toExt⟩;done)|(exfalso;omega)|(exfalso;simp_all;done)
 ·obtain ⟨he,hx,hy⟩:=zLM s x y z hw;obtain ⟨sx,sy,sz⟩:=zHX s x y z he;have HSP:=fun w h=>zOg x y z hx hy w h (by rw [←he];omega)
  rw [←he] at HSP;by_cases hz:z.size≤28
  ·by_cases hX:∃n,zFj x 9 n
   ·obtain ⟨a,ha⟩:=hX;have HA1:=fun w h=>zEf x 9 a w h (by omega) ha (by omega)
    have hY:¬∃n,zFj y 2000000 n:=fun ⟨b,hb⟩=>hno ⟨a,b,z,by rw [he,ha.2,hb.2];rfl,ha.1,hb.1,hz⟩
    have HA2:=fun w h=>zEM y 2000000 w h (by omega) (by omega) hY
    clear hno he;go_enter Tryz.func181,Tryz.ntmps181;go_wp2_with (first|(go_at_call 188;(with_reducible apply Calls.mono (HSP _ (Own.immOf (φ:=LibOk) hO pk_));rintro e8 w8 ⟨rfl,rfl⟩;dsimp only))|(go_at_call 230;(with_reducible apply Calls.mono (HA1 _ (Own.immOf (φ:=LibOk) hO pk_));refine cu_ ?_;clear hO;(try clear hf);intro w8 hO hf))|(go_at_call 230;(with_reducible apply Calls.mono (HA2 _ (Own.immOf (φ:=LibOk) hO pk_));rintro e8 w8 ⟨⟨x8,rfl⟩,hx8⟩;replace hO:=hO.ext hx8;clear hx8;dsimp only;(replace hf:=fa_ hO)))|(refine sq_ ?_;clear hO;(try clear hf);intro w9 hO hf));all_goals first|(refine zAD rfl fun K hK=>?_;simp [results,Tryz.results181,go_sem,hf];exact hK _ ⟨rfl,hO.toExt⟩;done)|(exfalso;omega)|(exfalso;simp_all;done)
   ·have HA1:=fun w h=>zEM x 9 w h (by omega) (by omega) hX
    have HA2:=fun w h=>zHc y 2000000 w h (by omega) (by omega) (by omega)
    clear hno he;go_enter Tryz.func181,Tryz.ntmps181;go_wp2_with (first|(go_at_call 188;(with_reducible apply Calls.mono (HSP _ (Own.immOf (φ:=LibOk) hO pk_));rintro e8 w8 ⟨rfl,rfl⟩;dsimp only))|(go_at_call 230;(with_reducible apply Calls.mono (HA1 _ (Own.immOf (φ:=LibOk) hO pk_));rintro e8 w8 ⟨⟨x8,rfl⟩,hx8⟩;replace hO:=hO.ext hx8;clear hx8;dsimp only;(replace hf:=fa_ hO)))|(go_at_call 230;(with_reducible apply Calls.mono (HA2 _ (Own.immOf (φ:=LibOk) hO pk_));rintro e8 w8 ⟨⟨x8,b8,rfl⟩,hx8⟩;replace hO:=hO.ext hx8;clear hx8;dsimp only;(replace hf:=fa_ hO)))|(refine sq_ ?_;clear hO;(try clear hf);intro w9 hO hf));all_goals first|(refine zAD rfl fun K hK=>?_;simp [results,Tryz.results181,go_sem,hf];exact hK _ ⟨rfl,hO.toExt⟩;done)|(exfalso;omega)|(exfalso;simp_all;done)
  ·clear hno he;go_enter Tryz.func181,Tryz.ntmps181;go_wp2_with (first|(go_at_call 188;(with_reducible apply Calls.mono (HSP _ (Own.immOf (φ:=LibOk) hO pk_));rintro e8 w8 ⟨rfl,rfl⟩;dsimp only))|(refine sq_ ?_;clear hO;(try clear hf);intro w9 hO hf));all_goals first|(refine zAD rfl fun K hK=>?_;simp [results,Tryz.results181,go_sem,hf];exact hK _ ⟨rfl,hO.toExt⟩;done)|(exfalso;omega)|(exfalso;simp_all;done)
structure Qu where
 next:Int
 tries:Int
 dead:ByteArray
structure Ms where
 num:Int
 tries:Int
 until_:Int
 body:ByteArray
def Qu.v (q:Qu):Value:=.agg #[.int .i64 q.next,.int .i64 q.tries,.string q.dead]
def Ms.v (m:Ms):Value:=.agg #[.int .i64 m.num,.int .i64 m.tries,.int .i64 m.until_,.string m.body]
def Qu.z:Qu:=⟨0,0,⟨#[]⟩⟩
def Ms.z:Ms:=⟨0,0,0,⟨#[]⟩⟩
def Qu.bad (q:Qu):Prop:=q.next<0∨999999<q.next∨q.tries<1∨9<q.tries
instance (q:Qu):Decidable q.bad:=by unfold Qu.bad;infer_instance
def Qu.named (q:Qu):Prop:=q.dead.size=0∨zAN q.dead
instance (q:Qu):Decidable q.named:=by unfold Qu.named;infer_instance
def Ms.bad (m:Ms):Prop:=m.tries<0∨9<m.tries∨m.until_<0∨2000000<m.until_∨28<m.body.size
instance (m:Ms):Decidable m.bad:=by unfold Ms.bad;infer_instance
def Qu.txt (q:Qu):ByteArray×Nat:=if q.bad then (⟨#[]⟩,1) else if q.named then (rowS q.next.toNat q.tries.toNat q.dead,0) else (⟨#[]⟩,3)
def Ms.txt (m:Ms):ByteArray×Nat:=if m.bad then (⟨#[]⟩,1) else (rowS m.tries.toNat m.until_.toNat m.body,0)
open Classical in
noncomputable def quOf (s:ByteArray):Qu×Nat:=if h:∃x:Nat×Nat×ByteArray,QRow s x.1 x.2.1 x.2.2 then (⟨(h.choose.1:Int),(h.choose.2.1:Int),h.choose.2.2⟩,0) else (Qu.z,4)
open Classical in
noncomputable def msOf (n:Int) (s:ByteArray):Ms×Nat:=if h:∃x:Nat×Nat×ByteArray,MRow s x.1 x.2.1 x.2.2 then (⟨n,(h.choose.1:Int),(h.choose.2.1:Int),h.choose.2.2⟩,0) else (Ms.z,4)
def Qu.ok (q:Qu):Prop:=¬q.bad∧q.named
theorem zFp (s:ByteArray):(∃q:Qu,quOf s=(q,0)∧q.ok∧q.dead.size≤6∧∃a b:Nat,q.next=a∧q.tries=b∧QRow s a b q.dead)∨(quOf s=(Qu.z,4)∧¬∃a b d,QRow s a b d):=by
 unfold quOf;by_cases h:∃x:Nat×Nat×ByteArray,QRow s x.1 x.2.1 x.2.2
 ·rw [dif_pos h];have h2:=h.choose_spec;refine .inl ⟨_,rfl,⟨?_,h2.2.2.2.2⟩,?_,_,_,rfl,rfl,h2⟩
  ·have h3:=h2.2.1;have h4:=h2.2.2.1;have h5:=h2.2.2.2.1;unfold Qu.bad;dsimp only;omega
  ·rcases h2.2.2.2.2 with h3 | h3
   ·dsimp only;omega
   ·exact h3.2.1
 ·rw [dif_neg h];exact .inr ⟨rfl,fun ⟨a,b,d,hq⟩=>h ⟨(a,b,d),hq⟩⟩
theorem zBn (n:Int) (s:ByteArray):(∃m:Ms,msOf n s=(m,0)∧m.num=n∧¬m.bad∧∃a b:Nat,m.tries=a∧m.until_=b∧MRow s a b m.body)∨(msOf n s=(Ms.z,4)∧¬∃a b d,MRow s a b d):=by
 unfold msOf;by_cases h:∃x:Nat×Nat×ByteArray,MRow s x.1 x.2.1 x.2.2
 ·rw [dif_pos h];have h2:=h.choose_spec;refine .inl ⟨_,rfl,rfl,?_,_,_,rfl,rfl,h2⟩;have h3:=h2.2.1;have h4:=h2.2.2.1;have h5:=h2.2.2.2;unfold Ms.bad;dsimp only;omega
 ·rw [dif_neg h];exact .inr ⟨rfl,fun ⟨a,b,d,hq⟩=>h ⟨(a,b,d),hq⟩⟩
theorem Qu.txt_le (q:Qu):q.txt.2≤3:=by unfold Qu.txt;split;omega;split<;>simp
theorem Ms.txt_le (m:Ms):m.txt.2≤3:=by unfold Ms.txt;split<;>simp
theorem zTP (s:ByteArray):(quOf s).2≤4:=by rcases zFp s with ⟨q,h,_⟩ | ⟨h,_⟩<;>rw [h]<;>simp
theorem zOK (n:Int) (s:ByteArray):(msOf n s).2≤4:=by rcases zBn n s with ⟨q,h,_⟩ | ⟨h,_⟩<;>rw [h]<;>simp
theorem zRM (q:Qu) (hd:q.dead.size≤50) (w:World) (h:LibOk w):Calls Tryz.prog 201 #[q.v] w fun e w'=>e=.returned (.tuple #[.string q.txt.1,errV q.txt.2])∧Ext w w':=by
 obtain ⟨a,b,d⟩:=q;unfold Qu.txt Qu.v;by_cases h1:Qu.bad ⟨a,b,d⟩
 ·rw [if_pos h1];exact zJI a b d w h h1
 ·rw [if_neg h1];unfold Qu.bad at h1;dsimp only at h1 hd;by_cases h2:Qu.named ⟨a,b,d⟩
  ·rw [if_pos h2];obtain ⟨k,rfl⟩:=Int.eq_ofNat_of_zero_le (show 0≤a by omega);obtain ⟨m,rfl⟩:=Int.eq_ofNat_of_zero_le (show 0≤b by omega);exact zMp k m d w h (by omega) (by omega) (by omega) h2 hd
  ·rw [if_neg h2];exact zIk a b d w h h1 h2 hd
theorem zMB (q:Ms) (w:World) (h:LibOk w):Calls Tryz.prog 204 #[q.v] w fun e w'=>e=.returned (.tuple #[.string q.txt.1,errV q.txt.2])∧Ext w w':=by
 obtain ⟨n,a,b,d⟩:=q;unfold Ms.txt Ms.v;by_cases h1:Ms.bad ⟨n,a,b,d⟩
 ·rw [if_pos h1];exact zHO n a b d w h h1
 ·rw [if_neg h1];unfold Ms.bad at h1;dsimp only at h1;obtain ⟨k,rfl⟩:=Int.eq_ofNat_of_zero_le (show 0≤a by omega);obtain ⟨m,rfl⟩:=Int.eq_ofNat_of_zero_le (show 0≤b by omega);exact zJy n k m d w h (by omega) (by omega) (by omega)
theorem zRn (s:ByteArray) (hs:s.size≤100) (w:World) (h:LibOk w):Calls Tryz.prog 175 #[.string s] w fun e w'=>e=.returned (.tuple #[(quOf s).1.v,errV (quOf s).2])∧Ext w w':=by
 rcases zFp s with ⟨q,hq,_,hds,a,b,ha,hb,hr⟩ | ⟨hq,hn⟩
 ·rw [hq];obtain ⟨q1,q2,q3⟩:=q;dsimp only at ha hb hr hds;subst ha hb;obtain ⟨he,h1,h2,h3,h4⟩:=hr;rw [he];exact zK3 a b q3 w h h1 h2 h3 h4 (by omega)
 ·rw [hq];exact zKv s w h (by omega) hn
theorem zH3 (n:Int) (s:ByteArray) (hs:s.size≤100) (w:World) (h:LibOk w):Calls Tryz.prog 181 #[.int .i64 n,.string s] w fun e w'=>e=.returned (.tuple #[(msOf n s).1.v,errV (msOf n s).2])∧Ext w w':=by
 rcases zBn n s with ⟨q,hq,hn,_,a,b,ha,hb,hr⟩ | ⟨hq,hn⟩
 ·rw [hq];obtain ⟨q0,q1,q2,q3⟩:=q;dsimp only at ha hb hr hn;subst ha hb hn;obtain ⟨he,h1,h2,h3⟩:=hr;rw [he];exact zIj q0 a b q3 w h h1 h2 h3
 ·rw [hq];exact zJD n s w h (by omega) hn
