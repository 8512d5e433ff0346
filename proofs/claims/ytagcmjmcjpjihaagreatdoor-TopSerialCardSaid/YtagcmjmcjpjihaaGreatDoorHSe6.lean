/- Texts ActV, Ser, Alone, TopSerial of this claim, laid together. -/
import Derived.Test.YtagcmjmcjpjihaaGreatDoorHC39
import Derived.Test.YtagcmjmcjpjihaaGreatDoorHSe5
import Derived.Test.YtagcmjmcjpjihaaGreatDoorHSe3
set_option linter.unusedVariables false
set_option linter.unusedSimpArgs false
set_option maxHeartbeats 8000000
set_option maxRecDepth 100000
namespace Go.Proofs.YtagcmjmcjpjihaaGreatDoor
open Go.RowKit Go.Lib
theorem ActsAt.ofVals {w:World} {a:Option Addr} {l:List Ac} (h:ValsAt w a (l.flatMap acC)) (hw:∀x∈l,x.wf w):ActsAt w a l:=by
 refine ⟨?_,hw⟩;cases l with
 | nil=>exact .inl rfl
 | cons y l=>
  right;rcases h with h | ⟨b,off,rfl,hc⟩
  ·exact absurd h (by simp [acC])
  ·refine ⟨b,off,rfl,fun i hi=>?_⟩;have g:∀(c:Nat) (v:Value),(acC (y::l)[i])[c]?=some v→w.cell? ⟨b,off+i*9+c,none⟩=some v:=fun c v hv=>by
    have:=ValsAt.get (.inr ⟨b,off,rfl,hc⟩) (zEl (f:=acC) (k:=9) (fun _=>rfl) hi c v hv)
    rwa [←Nat.add_assoc] at this
   exact ⟨g 0 _ rfl,g 1 _ rfl,g 2 _ rfl,g 3 _ rfl,g 4 _ rfl,g 5 _ rfl,g 6 _ rfl,g 7 _ rfl,g 8 _ rfl⟩
end Go.Proofs.YtagcmjmcjpjihaaGreatDoor
namespace Go.Proofs.YtagcmjmcjpjihaaGreatDoor
open Go.RowKit
inductive TFrom (rows:List Rw):List Ch→List Sp→List (Ac×ByteArray)→List Ch→List Sp→Prop
 | nil {C R}:TFrom rows C R [] C R
 | cons {C R l C' R'} (a:Ac) (res:Ms×Nat×List Ch×List Sp):zCx rows C R a res→TFrom rows (zAd rows C R a res).2.1 (zAd rows C R a res).2.2 l C' R'→TFrom rows C R ((a,(zAd rows C R a res).1)::l) C' R'
theorem TFrom.snoc {rows:List Rw} {C C1:List Ch} {R R1:List Sp} {l:List (Ac×ByteArray)} (h:TFrom rows C R l C1 R1) (a:Ac) {res:Ms×Nat×List Ch×List Sp} (hr:zCx rows C1 R1 a res) :
 TFrom rows C R (l++[(a,(zAd rows C1 R1 a res).1)]) (zAd rows C1 R1 a res).2.1 (zAd rows C1 R1 a res).2.2:=by
 induction h with
 | nil=>exact .cons a res hr .nil
 | cons b r h1 h2 ih=>exact .cons b r h1 (ih hr)
theorem TFrom.head {rows:List Rw} {C C':List Ch} {R R':List Sp} {q:Ac×ByteArray} {l:List (Ac×ByteArray)} (h:TFrom rows C R (q::l) C' R'):∃res,zCx rows C R q.1 res∧q.2=(zAd rows C R q.1 res).1∧TFrom rows (zAd rows C R q.1 res).2.1 (zAd rows C R q.1 res).2.2 l C' R':=by
 generalize hm:q::l=m at h;cases h with
 | nil=>cases hm
 | cons a res h1 h2=>
  cases hm;exact ⟨res,h1,rfl,h2⟩
theorem TFrom.none_ {rows:List Rw} {C C':List Ch} {R R':List Sp} {l:List (Ac×ByteArray)} (h:TFrom rows C R l C' R') (hl:l=[]):C'=C∧R'=R:=by
 cases h with
 | nil=>exact ⟨rfl,rfl⟩
 | cons a res h1 h2=>cases hl
theorem TFrom.sub {rows:List Rw} {C C':List Ch} {R R':List Sp} {l:List (Ac×ByteArray)} (h:TFrom rows C R l C' R'):∀s∈R,s∈R':=by
 induction h with
 | nil=>exact fun s hs=>hs
 | cons b r h1 h2 ih=>exact fun s hs=>ih s (zQs _ _ _ b h1 s hs)
theorem TFrom.ag {A B:List Rw} (hA:QRows A) (hB:QRows B) {C C':List Ch} {R R':List Sp} {l:List (Ac×ByteArray)} (h:TFrom A C R l C' R') (hI:QInv C R) (hg:AgR A B R'):TFrom B C R l C' R':=by
 induction h with
 | nil=>exact .nil
 | cons b r h1 h2 ih=>
  obtain ⟨res',hr',e⟩:=zRi hA hB hI b h1 (hg.sub h2.sub);have h3:=ih (zE8 hI b h1) hg;rw [←e] at h3 ⊢;exact .cons b res' hr' h3
theorem zJV {r:Rw}:∀{C:List Ch} {A:List Rw},(∀c∈C,c.key≠r.key)→(r∈C.foldl appR A↔r∈A)
 | [],_,_=>Iff.rfl
 | c::C,A,h=>by
  rw [List.foldl_cons,zJV (C:=C) fun x hx=>h x (List.mem_cons_of_mem _ hx)];have h1:=h c (List.mem_cons_self ..);unfold appR;rw [zAi];constructor
  ·rintro (⟨h2,_⟩ | ⟨_,h2⟩)
   ·exact h2
   ·exact absurd (by rw [h2]) h1
  ·exact fun h2=>.inl ⟨h2,fun h3=>h1 h3.symm⟩
def CLog (c:Core):Prop:=∀n<c.nn,∃C:List Ch,c.at (n+1)=C.foldl appR (c.at n)∧c.keys[n+1]?=some (zAm C)
theorem CLog.ag {c:Core} (h:CLog c) {R:List Sp} {s:Nat} (hc:zBY c.keys R s=true):∀n,s≤n→n≤c.nn→AgR (c.at s) (c.at n) R:=by
 intro n h1
 induction h1 with
 | refl=>exact fun _ r _=>Iff.rfl
 | @step n h2 ih=>
  intro h3 r hr;obtain ⟨C,e1,e2⟩:=h n (by omega);rw [ih (by omega) r hr,e1];refine (zJV fun x hx he=>?_).symm;have h4:zAm C∈c.keys.drop (s+1):=by
   have h2':s≤n:=h2;rw [List.mem_drop_iff_getElem];obtain ⟨h5,h6⟩:=List.getElem?_eq_some_iff.1 e2;exact ⟨n-s,by omega,by rw [←h6];congr 1;omega⟩
  unfold zBY at hc;have h7:=List.all_eq_true.1 (List.all_eq_true.1 hc _ h4) x.key (List.mem_map.2 ⟨x,hx,rfl⟩);rw [he,hr] at h7;cases h7
structure Told1 (m:Nat) (c:Core) (d:Dl):Prop where
 le:d.at_≤c.nn
 rd:d.reads=true→∃R,TFrom (c.at d.at_) [] [] d.acts [] R
 wr:d.reads=false→1≤d.at_∧∃C R,C≠[]∧TFrom (c.at (d.at_-1)) [] [] d.acts C R∧c.at d.at_=C.foldl appR (c.at (d.at_-1))∧zAl (c.at (d.at_-1)) C m=0
def wrB (n:Nat) (d:Dl):Bool:=!d.reads&&decide (d.at_=n)
structure SerI (m:Nat) (L:List Ac) (p:PS):Prop where
 log:CLog p.c
 deeds:∀i<4,∀x,p.D i=some x→TFrom (p.c.at x.2.since) [] [] (p.N i) x.2.C x.2.R∧∀q∈p.N i,q.1∈L
 told:∀d∈p.out,Told1 m p.c d∧∀q∈d.acts,q.1∈L
 one:∀n,(p.out.filter (wrB n)).length=if 1≤n∧n≤p.c.nn then 1 else 0
theorem Told1.com {m B:Nat} {c:Core} (H:CoreOk m B c) {d:Dl} (h:Told1 m c d) (C:List Ch) (dk:Dk) (hd:Hd) (R0:List Rw) (W0:List (List Ch)) (u s:Nat):Told1 m (c.com C dk hd R0 W0 u s) d:=by
 have e:∀n,n≤c.nn→(c.com C dk hd R0 W0 u s).at n=c.at n:=fun n hn=>H.comLe _ _ _ _ _ _ _ hn
 have hl:=h.le;refine ⟨Nat.le_succ_of_le hl,fun hr=>?_,fun hr=>?_⟩
 ·rw [e _ hl];exact h.rd hr
 ·rw [e _ hl,e (d.at_-1) (by omega)];exact h.wr hr
theorem CLog.com {m B:Nat} {c:Core} (H:CoreOk m B c) (h:CLog c) (C:List Ch) (dk:Dk) (hd:Hd) (R0:List Rw) (W0:List (List Ch)) (u s:Nat):CLog (c.com C dk hd R0 W0 u s):=fun n hn=>by
 have hn2:n<c.nn+1:=hn;have hkl:=H.kl;rw [H.comLe _ _ _ _ _ _ _ (show n≤c.nn by omega)];show ∃C',(c.com C dk hd R0 W0 u s).at (n+1)=C'.foldl appR (c.at n)∧(c.keys++[zAm C])[n+1]?=some (zAm C');by_cases h9:n<c.nn
 ·obtain ⟨C',e1,e2⟩:=h n h9;refine ⟨C',?_,?_⟩
  ·rw [H.comLe _ _ _ _ _ _ _ (show n+1≤c.nn by omega)];exact e1
  ·rw [List.getElem?_append_left (by omega)];exact e2
 ·obtain rfl:n=c.nn:=by omega
  exact ⟨C,H.comAt _ _ _ _ _ _ _,by rw [List.getElem?_append_right (by omega),hkl,Nat.sub_self];rfl⟩
theorem SerI.start (m k:Nat) (L:List Ac):SerI m L ⟨Core.new (newD k) newH [] [] 0,fun _=>none,fun _=>[],[]⟩:=
 ⟨fun n hn=>absurd hn (Nat.not_lt_zero _),fun i hi x hx=>by (cases hx),fun d hd=>by (cases hd),fun n=>by
  rw [if_neg (fun h=>by have:n≤0:=h.2;omega)];rfl⟩
theorem SerI.keep {m:Nat} {L:List Ac} {p p':PS} (h:SerI m L p) (h1:p'.c.nn=p.c.nn) (h2:p'.c.past=p.c.past) (h3:p'.c.keys=p.c.keys) (ho:p'.out=p.out) (hD:∀i<4,∀x,p'.D i=some x→p.D i=some x∧p'.N i=p.N i):SerI m L p':=by
 have e:∀n,p'.c.at n=p.c.at n:=fun n=>by unfold Core.at;rw [h2]
 refine ⟨fun n hn=>?_,fun i hi x hx=>?_,fun d hd=>?_,fun n=>?_⟩
 ·rw [e,e,h3];exact h.log n (by omega)
 ·obtain ⟨g1,g2⟩:=hD i hi x hx;rw [e,g2];exact h.deeds i hi x g1
 ·rw [ho] at hd;obtain ⟨g1,g2⟩:=h.told d hd;exact ⟨⟨by rw [h1];exact g1.le,by rw [e];exact g1.rd,by rw [e,e];exact g1.wr⟩,g2⟩
 ·rw [ho,h1];exact h.one n
theorem SerI.step {m B:Nat} {L:List Ac} {p p':PS} {a:Ac} (h:SerI m L p) (H:PSOk m B p) (ha:a∈L) (hs:PStep m B p a p'):SerI m L p':=by
 have hses:=a.ses_lt;cases hs with
 | beg q k1 k2=>
  refine ⟨h.log,fun i hi x hx=>?_,h.told,h.one⟩;show TFrom _ _ _ (zBg p.N a.ses [] i) _ _∧∀q∈zBg p.N a.ses [] i,q.1∈L;unfold zBg;rcases zA1 hx with ⟨rfl,h5⟩ | ⟨h0,h5⟩
  ·cases h5;rw [if_pos rfl];exact ⟨.nil,fun q hq=>by cases hq⟩
  ·rw [if_neg h0];exact h.deeds i hi x h5
 | same=>exact h
 | com x n c' D' k1 k2 k3=>
  obtain ⟨g1,g2⟩:=h.deeds _ hses x k2;have hd:=H.d _ hses x k2;generalize hk0:(0:Nat)=k0 at k3;cases k3 with
  | none h1=>
   refine ⟨h.log,fun i hi y hy=>?_,fun d hd2=>?_,fun n=>?_⟩
   ·rcases zA1 hy with ⟨_,h5⟩ | ⟨_,h5⟩
    ·cases h5
    ·exact h.deeds i hi y h5
   ·rcases List.mem_append.1 hd2 with h5 | h5
    ·exact h.told d h5
    ·rw [List.mem_singleton.1 h5];refine ⟨⟨hd.le,fun _=>⟨_,h1 ▸ g1⟩,fun h6=>?_⟩,g2⟩;have h7:decide (x.2.C.length=0)=false:=h6;rw [h1] at h7;cases h7
   ·show ((p.out++[_]).filter (wrB n)).length=_;rw [List.filter_append,List.length_append,h.one];have:wrB n ⟨x.2.since,decide (x.2.C.length=0),p.N a.ses⟩=false:=by unfold wrB;rw [h1];rfl
    rw [List.filter_cons,this];rfl
  | done d hd1 R0 W0 u h1 h2 h3 h4 h5=>
   have hlen:decide (x.2.C.length=0)=false:=by
    rw [decide_eq_false_iff_not];exact fun h6=>h1 (List.length_eq_zero_iff.1 h6)
   have hc:=H.c;have hag:=h.log.ag h2 p.c.nn hd.le (Nat.le_refl _);have hq:QRows (p.c.at p.c.nn):=DeedOk.qr hc hc.fresh;have g3:TFrom (p.c.at p.c.nn) [] [] (p.N a.ses) x.2.C x.2.R:=g1.ag (hd.qr hc) hq QInv.none hag;refine ⟨h.log.com hc _ _ _ _ _ _ _,fun i hi y hy=>?_,fun e he=>?_,fun n=>?_⟩
   ·rcases zA1 hy with ⟨_,h6⟩ | ⟨_,h6⟩
    ·cases h6
    ·rw [show ((p.end_ a.ses _ _ (p.c.com x.2.C d hd1 R0 W0 u (zA5 (p.c.nn+1) (setF p.D a.ses none))) (setF p.D a.ses none)).c)=p.c.com x.2.C d hd1 R0 W0 u (zA5 (p.c.nn+1) (setF p.D a.ses none)) from rfl,hc.comLe _ _ _ _ _ _ _ (H.d i hi y h6).le];exact h.deeds i hi y h6
   ·rcases List.mem_append.1 he with h6 | h6
    ·exact ⟨(h.told e h6).1.com hc _ _ _ _ _ _ _,(h.told e h6).2⟩
    ·rw [List.mem_singleton.1 h6];refine ⟨⟨Nat.le_refl _,fun h7=>?_,fun _=>⟨Nat.succ_pos _,x.2.C,x.2.R,h1,?_⟩⟩,g2⟩
     ·have h7':decide (x.2.C.length=0)=true:=h7;rw [hlen] at h7';cases h7'
     ·show TFrom ((p.c.com x.2.C d hd1 R0 W0 u _).at (p.c.nn+1-1)) _ _ _ _ _∧(p.c.com x.2.C d hd1 R0 W0 u _).at (p.c.nn+1)=x.2.C.foldl appR ((p.c.com x.2.C d hd1 R0 W0 u _).at (p.c.nn+1-1))∧zAl ((p.c.com x.2.C d hd1 R0 W0 u _).at (p.c.nn+1-1)) x.2.C m=0;rw [Nat.add_sub_cancel,hc.comAt,hc.comLe _ _ _ _ _ _ _ (Nat.le_refl _)];exact ⟨g3,rfl,h3⟩
   ·show ((p.out++[_]).filter (wrB n)).length=if 1≤n∧n≤p.c.nn+1 then 1 else 0
    rw [List.filter_append,List.length_append,h.one,List.filter_cons];by_cases hn:p.c.nn+1=n
    ·rw [show wrB n ⟨p.c.nn+1,decide (x.2.C.length=0),p.N a.ses⟩=true from by unfold wrB;rw [hlen,decide_eq_true hn];rfl];simp only [if_true,List.filter_nil,List.length_singleton];rw [if_neg (by omega),if_pos (by omega)]
    ·rw [show wrB n ⟨p.c.nn+1,decide (x.2.C.length=0),p.N a.ses⟩=false from by unfold wrB;rw [hlen,decide_eq_false hn];rfl];simp only [Bool.false_eq_true,if_false,List.filter_nil,List.length_nil,Nat.add_zero];by_cases h8:1≤n∧n≤p.c.nn
     ·rw [if_pos h8,if_pos (by omega)]
     ·rw [if_neg h8,if_neg (by omega)]
  | full h1 h2 h3 h4=>exact absurd hk0.symm h3
  | late h1 h2=>cases hk0
  | down c' h1 h2 h3 h4=>cases hk0
 | comno x n k c' D' k1 k2 k3 k4 k5=>
  have hc':c'=p.c:=by
   cases k5 with
   | none h1=>exact absurd rfl k3
   | late h1 h2=>rfl
   | full h1 h2 h3 h4=>rfl
   | done d h R0 W0 u h1 h2 h3 h4 h5=>exact absurd rfl k3
   | down c' h1 h2 h3 h4=>exact absurd rfl k4
  have hD':D'=setF p.D a.ses none∨D'=p.D:=by
   cases k5 with
   | none h1=>exact .inl rfl
   | late h1 h2=>exact .inl rfl
   | full h1 h2 h3 h4=>exact .inr rfl
   | done d h R0 W0 u h1 h2 h3 h4 h5=>exact .inl rfl
   | down c' h1 h2 h3 h4=>exact .inr rfl
  subst hc';refine h.keep rfl rfl rfl rfl fun i hi y hy=>⟨?_,rfl⟩
  have hy2:D' i=some y:=hy;rcases hD' with rfl | rfl
  ·rcases zA1 hy2 with ⟨_,h5⟩ | ⟨_,h5⟩
   ·cases h5
   ·exact h5
  ·exact hy2
 | ab x k1 k2=>
  refine h.keep rfl rfl rfl rfl fun i hi y hy=>⟨?_,rfl⟩
  rcases zA1 hy with ⟨_,h5⟩ | ⟨_,h5⟩
  ·cases h5
  ·exact h5
 | vac k1=>exact h.keep rfl rfl rfl rfl fun i hi y hy=>⟨hy,rfl⟩
 | save c' k1 k2=>
  obtain ⟨d,hd,R0,W0,u,rfl,_⟩:=k2;exact h.keep rfl rfl rfl rfl fun i hi y hy=>⟨hy,rfl⟩
 | told x res k2 k3=>
  obtain ⟨g1,g2⟩:=h.deeds _ hses x k2;refine ⟨h.log,fun i hi y hy=>?_,h.told,h.one⟩;show TFrom _ _ _ (zBg p.N a.ses (p.N a.ses++[(a,(zAd (p.c.at x.2.since) x.2.C x.2.R a res).1)]) i) _ _∧∀q∈zBg p.N a.ses (p.N a.ses++[(a,(zAd (p.c.at x.2.since) x.2.C x.2.R a res).1)]) i,q.1∈L;unfold zBg;rcases zA1 hy with ⟨rfl,h5⟩ | ⟨h0,h5⟩
  ·cases h5;rw [if_pos rfl];refine ⟨g1.snoc a k3,fun q hq=>?_⟩;rcases List.mem_append.1 hq with h6 | h6
   ·exact g2 q h6
   ·rw [List.mem_singleton.1 h6];exact ha
  ·rw [if_neg h0];exact h.deeds i hi y h5
theorem SerI.run {m B:Nat} {L l:List Ac} {p p':PS} (hr:PRun m B p l p') (h:SerI m L p) (H:PSOk m B p) (hB:B+l.length≤1000) (hl:∀a∈l,a∈L):SerI m L p':=by
 induction hr with
 | nil=>exact h
 | snoc a h1 h2 ih=>
  rw [List.length_append,List.length_singleton] at hB;exact (ih (by omega) fun x hx=>hl x (List.mem_append_left _ hx)).step (h1.ok H (by omega)) (hl a (by simp)) h2
def wrN (out:List Dl) (n i:Nat):Nat:=((out.take i).filter (wrB n)).length
theorem zRw {out:List Dl} {i:Nat} (n:Nat) (h:i<out.length):wrN out n (i+1)=wrN out n i+if wrB n out[i] then 1 else 0:=by
 unfold wrN;rw [List.take_succ_eq_append_getElem h,List.filter_append,List.length_append,List.filter_cons];split<;>simp
theorem zTr {out:List Dl} (n:Nat):∀{i k:Nat},i≤k→wrN out n i≤wrN out n k:=fun {i k} h=>by
 unfold wrN;exact ((List.take_prefix_take_left (l:=out) h).filter _).length_le
theorem zOW (out:List Dl) (n:Nat):wrN out n out.length=(out.filter (wrB n)).length:=by unfold wrN;rw [List.take_length]
end Go.Proofs.YtagcmjmcjpjihaaGreatDoor
set_option linter.unnecessarySimpa false
namespace Go.Proofs.YtagcmjmcjpjihaaGreatDoor
open Go.RowKit Go.Lib
structure AlX (c:Core) (C:List Ch) (n:Nat) where
 c':Core
 ok:CoreOk 70 c'.nn c'
 nn:c'.nn=n
 at_:c'.at n=C.foldl appR (c.at c.nn)
 f:c'.d.fuse=-1
def AlM (aa sa:Option Addr) (L:List (Ac×ByteArray)) (w:World):Prop:=LibOk w∧ActsAt w aa (L.map (·.1))∧ValsAt w sa (zCq L)
theorem zPU {m B:Nat} {c:Core} (H:CoreOk m B c) (R:List Sp):zBY c.keys R c.nn=true:=by
 unfold zBY;rw [List.drop_eq_nil_of_le (by rw [H.kl];omega)];rfl
theorem zKk:setF (fun _=>none) 0 none=(fun _=>none:Nat→Option (Nat×Dv)):=by
 funext j;unfold setF;split<;>rfl
theorem zJL (e p:Nat) (c:Core) (H:CoreOk 70 c.nn c) (hf0:c.d.fuse=-1) (hn:c.nn+1≤900) (k:Nat) (rb:Bool) (aa sa:Option Addr) (ac sc:Nat) (L:List (Ac×ByteArray)) (C:List Ch) (R:List Sp) (ht:TFrom (c.at c.nn) [] [] L C R) (hl:L.length≤900)
 (hlight:∀q∈L,q.1.s.size≤120∧q.1.t.size≤100) (hat:(C=[]∧k=c.nn)∨(C≠[]∧k=c.nn+1∧zAl (c.at c.nn) C 70=0)) {φ:World→Prop} (hφ:∀w,φ w→AlM aa sa L w) :
 Does Tryz.prog 58 #[.pointer (some ⟨e,0,none⟩),.agg #[.int .i64 (k:Int),.bool rb,.slice aa L.length ac,.slice sa L.length sc]] [EngR e p 70 c (fun _=>none),zAC p c.d,.imm LibOk,.imm φ]
  (fun y:AlX c C k=>(.bool true,[EngR e p 70 y.c' (fun _=>none),zAC p y.c'.d,.imm LibOk,.imm φ])):=by
 have HB:=zDU e p 70 c (fun _=>none) 0 (by omega) rfl;have HDD:=fun z:Nat=>zCZ e p 70 c (setF (fun _=>none) 0 (some (z,⟨c.nn,[],[]⟩))) 0 (by omega) (z,⟨c.nn,[],[]⟩) rfl
 rw [show ((0:Nat):Int)=0 from rfl] at HB;simp only [show ((0:Nat):Int)=0 from rfl] at HDD;have HT0:=Lib.hid (show TFrom (c.at c.nn) [] [] (L.drop 0) C R∧QInv [] [] from ⟨ht,QInv.none⟩);have HAT:=Lib.hid hat;clear hat ht;intro S W w L0 hO;simp only [CA] at hO;(replace hf:=fa_ hO);go_enter Tryz.func58,Tryz.ntmps58;go_upto_region 1 with (first|(refine sq_ ?_;clear hO hf;intro w9 hO hf))
 obtain ⟨g,hg9⟩:=(hO.pick (r:=Var _ [.int .i64 (k:Int),.bool rb,.slice aa L.length ac,.slice sa L.length sc] 112) pk_).named;rw [←hg9];rw [←hg9] at hO;clear hg9;(replace hf:=fa_ hO);go_wp2_with (first|(go_at_call 20;(with_reducible refine Does.use hO (HB) tk_ (du_ ?_);clear hO hf;intro x9 w9 hO hf;rename Nat=>z))|(go_at_call 30;(with_reducible refine Does.use hO (HDD _) tk_ (du_ ?_);clear hO hf;intro x9 w9 hO hf))|(refine sq_ ?_;clear hO hf;intro w9 hO hf));all_goals try (exfalso;omega;done)
 have hO9:Own S W _ (Var g [.int .i64 (k:Int),.bool rb,.slice aa L.length ac,.slice sa L.length sc] 112::EngR e p 70 c (setF (fun _=>none) 0 (some (z,⟨c.nn,[],[]⟩)))::zAC p c.d::.imm LibOk::.imm φ::L0):=hO.cut sb_;clear hO hf;go_loopw [7] (fun v7 wr=>∃(i:Nat) (C1:List Ch) (R1:List Sp),v7=.int .i64 (i:Int)∧i≤L.length∧Hid (TFrom (c.at c.nn) C1 R1 (L.drop i) C R∧QInv C1 R1)∧Own S W wr (Var g [.int .i64 (k:Int),.bool rb,.slice aa L.length ac,.slice sa L.length sc] 112::EngR e p 70 c (setF (fun _=>none) 0 (some (z,⟨c.nn,C1,R1⟩)))::zAC p c.d::.imm LibOk::.imm φ::L0)) (fun v _=>L.length+1-(intOf v).toNat)
 case atStart=>exact ⟨0,[],[],rfl,by omega,HT0,hO9⟩
 case round=>
  clear hO9;obtain ⟨i,C1,R1,rfl,hi,HT,hO⟩:=hrel;rename World=>w1
  (replace hf:=fa_ hO);have hdd:DeedOk c ⟨c.nn,C1,R1⟩:=⟨H.fresh.f,H.fresh.k,H.fresh.le,HT.out.2⟩
  by_cases hlt:i<L.length
  ·have hdr:=HT.out.1;rw [List.drop_eq_getElem_cons hlt] at hdr;obtain ⟨res,hr,htx,hnx⟩:=hdr.head;have hsz:=hlight _ (List.getElem_mem hlt);have hlm:i<(L.map (·.1)).length:=by rw [List.length_map];exact hlt
   have hA0:=hφ _ (Own.immOf (φ:=φ) hO pk_);obtain ⟨b,off,rfl⟩:∃b off,aa=some ⟨b,off,none⟩:=by
    rcases hA0.2.1.1 with h0 | ⟨b,off,h0,_⟩
    ·rw [h0] at hlm;simp at hlm
    ·exact ⟨b,off,h0⟩
   obtain ⟨b2,off2,rfl⟩:∃b off,sa=some ⟨b,off,none⟩:=by
    rcases hA0.2.2 with h0 | ⟨b,off,h0,_⟩
    ·exfalso;have:(zCq L).length=0:=by rw [h0];rfl
     unfold zCq at this;rw [List.length_map] at this;omega
    ·exact ⟨b,off,h0⟩
   clear hA0;have hac:∀w,φ w→AcAt w b (off+i*9) (L[i]).1:=fun w h=>by
    rcases (hφ w h).2.1.1 with h0 | ⟨b',off',h0,hc⟩
    ·rw [h0] at hlm;simp at hlm
    ·cases h0;have:=hc i hlm
     rwa [List.getElem_map] at this
   have hsd:∀w,φ w→w.cell? ⟨b2,off2+i,none⟩=some (.string (L[i]).2):=fun w h=>(hφ w h).2.2.get (by unfold zCq;rw [List.getElem?_map,List.getElem?_eq_getElem hlt];rfl)
   have hsp:∀w,φ w→SpansAt w (L[i]).1.sp (L[i]).1.spn∧(L[i]).1.spn.length≤maxLen:=fun w h=>by
    have:=(hφ w h).2.1.2 _ (List.mem_map.2 ⟨_,List.getElem_mem hlt,rfl⟩);exact ⟨this.2.2.1,this.2.2.2.2⟩
   have HNI:=Lib.hid (zE8 HT.out.2 (L[i]).1 hr);have HNX:=Lib.hid hnx;have HTL:=zFx (e:=e) (p:=p) (m:=70) H (i:=0) (by omega) (D:=(setF (fun _=>none) 0 (some (z,⟨c.nn,C1,R1⟩)))) (x:=(z,⟨c.nn,C1,R1⟩)) rfl hdd (L[i]).1 hsz.1 hsz.2 (φ:=φ) (fun w h=>(hφ w h).1) hsp (res:=res) hr;unfold Ac.v at HTL;dsimp only at HTL;rw [zDs] at HTL;rw [←htx] at HTL;clear hnx hr htx hdr hsz hsp hlm;generalize zAd (c.at c.nn) C1 R1 (L[i]).1 res=yy at *;generalize L[i]=x at *;obtain ⟨xa,tx⟩:=x;obtain ⟨xkind,xA,xB,xC,xK,xS,xT,xcp,xcc,xch,xsp,xsc,xspn⟩:=xa;dsimp only at hac hsd HTL;go_wp2_with (refine sq_ ?_;clear hO;(try clear hf);intro w9 hO hf);all_goals try (exfalso;omega;done)
   (refine zAW (fun w8=>Own _ _ w8 (Var g [.int .i64 (k:Int),.bool rb,.slice (some ⟨b,off,none⟩) L.length ac,.slice (some ⟨b2,off2,none⟩) L.length sc] 112::.imm φ::L0)) (fun _ _ h hx=>h.ext hx) (hO.cut sb_) ((0,0)::(0,1)::(2,2)::(0,3)::(0,4)::(2,5)::(0,7)::(2,8)::(0,9)::(0,10)::(2,11)::(5,6)::(0,12)::[]) (by kernel_rfl) (by kernel_rfl) rfl (fun _ _ d _ _ h=>by cases d<;>exact h) ?_;intro w9 hx9;replace hO:=hO.ext hx9;clear hx9;(replace hf:=fa_ hO);(repeat (first|(apply zAG _ rfl rfl rfl;focus (intro w8 K8 hK8;(repeat (first | go_skip | go_guarded | go_step));exact hK8))|(apply zCD _ rfl rfl rfl;focus (intro w8 hI8 K8 hK8;(try clear hf);have hf:=hI8.facts;(try simp only [FZ,Nat.reduceAdd] at hf);(obtain ⟨k0,k1,k2,k3,k4,k5,k6,k7,k8⟩:=hac _ (Own.immOf (φ:=φ) hI8 pk_);have k9:=hsd _ (Own.immOf (φ:=φ) hI8 pk_);dsimp only at k0 k1 k2 k3 k4 k5 k6 k7 k8);(repeat (first | go_skip | go_guarded | go_step));exact hK8)))));(refine zAE rfl ?_;intro K8 hK8;(repeat (first | go_skip | go_guarded | go_step));(go_at_call 54;(with_reducible refine Does.use hO (HTL) tk_ (du_ ?_);clear hO hf;intro x9 w9 hO hf));(repeat go_step);refine hK8 _ _ (hO.cut sb_) ?_;clear hK8 K8);(refine si_ ?_);refine zAA ?_;go_wp2_with (refine sq_ ?_;clear hO hf;intro w9 hO hf);all_goals try (exfalso;omega;done)
   exact ⟨⟨i+1,_,_,by go_num,by omega,Lib.hid ⟨HNX.out,HNI.out⟩,hO.cut sb_⟩,by simp [intOf];omega⟩
  ·obtain ⟨hC,hR⟩:=HT.out.1.none_ (List.drop_eq_nil_of_le (by omega));subst hC hR;have HCM:=zCF e p 70 c.nn c (setF (fun _=>none) 0 (some (z,⟨c.nn,C,R⟩))) H (by omega) 0 (by omega) (z,⟨c.nn,C,R⟩) rfl hdd hf0;rw [show ((0:Nat):Int)=0 from rfl] at HCM;clear hdd;go_upto_region 12 with (first|(go_at_call 22;(with_reducible refine Does.use hO (HCM) tk_ (du_ ?_);clear hO;(try clear hf);intro x9 w9 hO hf;(obtain ⟨n',k',c',D',ok,_,_,fz⟩:=x9;dsimp only at hO ⊢;(replace hf:=fa_ hO))))|(refine sq_ ?_;clear hO;(try clear hf);intro w9 hO hf))
   all_goals try (exfalso;omega;done)
   cases ok with
   | none h1=>
    have hk:k=c.nn:=by
     rcases HAT.out with ⟨_,h⟩ | ⟨h,_⟩
     ·exact h
     ·exact absurd h1 h
    simp only [show errV 0=.nilIface from rfl];(try dsimp only at hO);rw [zDs,zKk] at hO;subst hk;go_wp2_with (refine sq_ ?_;clear hO;(try clear hf);intro w9 hO hf);all_goals try (exfalso;omega;done)
    go_ret;refine ⟨⟨c,H,rfl,by rw [h1];rfl,hf0⟩,rfl,?_⟩;dsimp only;(try simp only [CA]);exact hO.cut sb_
   | late h1 h2=>exact absurd h2 (by dsimp only;rw [zPU H];simp)
   | full h1 h2 h3 h4=>
    rcases HAT.out with ⟨h,_⟩ | ⟨_,_,h⟩
    ·exact absurd h h1
    ·exact absurd h h3
   | down c' h1 h2 h3 h4=>exact absurd hf0 h4
   | done d h R0 W0 u h1 h2 h3 h4 h5=>
    have hk:k=c.nn+1:=by
     rcases HAT.out with ⟨h,_⟩ | ⟨_,h,_⟩
     ·exact absurd h h1
     ·exact h
    simp only [show errV 0=.nilIface from rfl];dsimp only at hO h4 fz;rw [zDs,zKk] at hO h4 fz;have hX:CoreOk 70 (c.com C d h R0 W0 u (zA5 (c.nn+1) (fun _=>Option.none))).nn (c.com C d h R0 W0 u (zA5 (c.nn+1) (fun _=>Option.none))):=h4;have hY:=H.comAt C d h R0 W0 u (zA5 (c.nn+1) (fun _=>Option.none));have hZ:(c.com C d h R0 W0 u (zA5 (c.nn+1) (fun _=>Option.none))).nn=c.nn+1:=rfl;subst hk;generalize c.com C d h R0 W0 u (zA5 (c.nn+1) (fun _=>Option.none))=c1 at *;clear h1 h2 h3 h4 h5;go_wp2_with (refine sq_ ?_;clear hO;(try clear hf);intro w9 hO hf);all_goals try (exfalso;omega;done)
    go_ret;refine ⟨⟨c1,hX,hZ,hY,fz⟩,rfl,?_⟩;dsimp only;(try simp only [CA]);exact hO.cut sb_
def SerM (aa:Option Addr) (l:List Ac) (oa:Option Addr) (dl:List NV) (w:World):Prop:=(LibOk w∧ActsAt w aa l)∧ValsAt w oa (dl.flatMap nvC)∧zD5 w dl
theorem SerM.alone {aa oa:Option Addr} {l:List Ac} {dl:List NV} {w:World} (h:SerM aa l oa dl w) {v:NV} (hv:v∈dl) (hm:∀q∈v.L,q.1∈l):AlM v.aa v.sa v.L w:=by
 obtain ⟨⟨h1,h2⟩,_,h4⟩:=h;obtain ⟨g1,g2⟩:=h4 v hv;refine ⟨h1,ActsAt.ofVals ?_ fun x hx=>?_,g2⟩
 ·rw [List.flatMap_map];exact g1
 ·obtain ⟨q,hq,rfl⟩:=List.mem_map.1 hx;exact h2.2 _ (hm q hq)
theorem zSG {w:World} {dl:List NV} {b off i:Nat} (h:ValsAt w (some ⟨b,off,none⟩) (dl.flatMap nvC)) (hi:i<dl.length) :
 w.cell? ⟨b,off+i*4,none⟩=some (.int .i64 dl[i].a)∧w.cell? ⟨b,off+i*4+1,none⟩=some (.bool dl[i].r)∧w.cell? ⟨b,off+i*4+2,none⟩=some (.slice dl[i].aa dl[i].L.length dl[i].ac)∧w.cell? ⟨b,off+i*4+3,none⟩=some (.slice dl[i].sa dl[i].L.length dl[i].sc):=by
 have g:∀(c:Nat) (v:Value),(nvC dl[i])[c]?=some v→w.cell? ⟨b,off+i*4+c,none⟩=some v:=fun c v hv=>by
  have:=ValsAt.get h (zEl (f:=nvC) (k:=4) (fun _=>rfl) hi c v hv)
  rwa [←Nat.add_assoc] at this
 exact ⟨g 0 _ rfl,g 1 _ rfl,g 2 _ rfl,g 3 _ rfl⟩
structure OIn (c co:Core) (n:Nat):Prop where
 ok:CoreOk 70 co.nn co
 f:co.d.fuse=-1
 nn:co.nn=n
 at_:co.at co.nn=c.at co.nn
theorem AlX.oin {c co:Core} {C:List Ch} {n:Nat} (y:AlX co C n) (h:C.foldl appR (co.at co.nn)=c.at n):OIn c y.c' n:=⟨y.ok,y.f,y.nn,by rw [y.nn,y.at_,h]⟩
theorem Told1.turn {c co:Core} {d:Dl} {n:Nat} (h:Told1 70 c d) (hd:d.at_=n) (ho:OIn c co (if d.reads then n else n-1)) :
 ∃C R,TFrom (co.at co.nn) [] [] d.acts C R∧((C=[]∧n=co.nn)∨(C≠[]∧n=co.nn+1∧zAl (co.at co.nn) C 70=0))∧C.foldl appR (co.at co.nn)=c.at n:=by
 have hat:=ho.at_;have hnn:=ho.nn;cases hr:d.reads with
 | true=>
  rw [hr,if_pos rfl] at hnn;obtain ⟨R,h1⟩:=h.rd hr;rw [hd,←hnn,←hat] at h1;exact ⟨[],R,h1,.inl ⟨rfl,hnn.symm⟩,by rw [List.foldl_nil,hat,hnn]⟩
 | false=>
  rw [hr,if_neg (by simp)] at hnn;obtain ⟨h1,C,R,h2,h3,h4,h5⟩:=h.wr hr;rw [hd] at h1 h3 h4 h5;rw [←hnn,←hat] at h3 h4 h5;exact ⟨C,R,h3,.inr ⟨h2,by omega,h5⟩,h4.symm⟩
theorem PRun.outlen {m B:Nat} {p q:PS} {l:List Ac} (h:PRun m B p l q):q.out.length≤p.out.length+l.length:=by
 induction h with
 | nil=>simp
 | snoc a h1 h2 ih=>
  rw [List.length_append,List.length_singleton];cases h2 with
  | beg q k1 k2=>exact Nat.le_succ_of_le ih
  | same=>exact Nat.le_succ_of_le ih
  | com x n c' D' k1 k2 k3=>
   show (_++[_]:List Dl).length≤_;rw [List.length_append,List.length_singleton];omega
  | comno x n k c' D' k1 k2 k3 k4 k5=>exact Nat.le_succ_of_le ih
  | ab x k1 k2=>exact Nat.le_succ_of_le ih
  | vac k1=>exact Nat.le_succ_of_le ih
  | save c' k1 k2=>exact Nat.le_succ_of_le ih
  | told x res k2 k3=>exact Nat.le_succ_of_le ih
theorem zK5 (aa:Option Addr) (ac:Nat) (l:List Ac) (W:World) (hφ:TaArg aa l W) (hn:l.length≤9223372036854775807) :
 Calls Tryz.prog 10 #[.slice aa l.length ac] W fun e w'=>e=.returned (.bool true)∧Ext W w':=by
 have hO:=hφ.base;have HG:=fun w (h:TaArg aa l w)=>zEL w h.1
 have HL:∀w,TaArg aa l w→Calls Tryz.prog 16 #[.slice aa l.length ac,.int .i64 90] w fun e w'=>e=.returned (.bool (zAT l 90))∧w'=w:=fun w hA=>zBv aa ac l 90 w (by unfold maxLen;omega) (by omega) hA.2
 have HS:=zCX 70 (by omega) (by omega);rw [show ((70:Nat):Int)+50=120 from rfl] at HS;(replace hf:=fa_ hO);go_enter Tryz.func10,Tryz.ntmps10;cases hli:zAT l 90 with
 | false=>
  rw [hli] at HL;go_wp2_with (first|(go_at_call 42;(with_reducible apply Calls.mono (HG _ (Own.immOf (φ:=TaArg aa l) hO pk_));refine cu_ ?_;clear hO;(try clear hf);intro w8 hO hf))|(go_at_call 16;(with_reducible apply Calls.mono (HL _ (Own.immOf (φ:=TaArg aa l) hO pk_));rintro e8 w8 ⟨rfl,rfl⟩;dsimp only))|(refine sq_ ?_;clear hO;(try clear hf);intro w9 hO hf));go_ret;exact ⟨rfl,hO.toExt⟩
 | true=>
 rw [hli] at HL;obtain ⟨h90,hlt⟩:=zCi hli;have H0:=PSOk.start (m:=70) (by omega) (by omega);have HSI:=Lib.hid (SerI.start 70 (70+50) l);obtain ⟨f1,f2,f3,f4,f5⟩:=zCo 70;obtain ⟨c0,hc⟩:∃c,c=Core.new (newD (70+50)) newH [] [] 0:=⟨_,rfl⟩
 rw [←hc] at HS H0 f1 f2 f3 f4 HSI;rw [←f3] at HS;clear hc f3 f5;have HP:=fun e p=>zDa e p 70 0 c0 (fun _=>none) aa ac l H0 (by omega) hlt
 go_upto_region 7 with (first|(go_at_call 42;(with_reducible apply Calls.mono (HG _ (Own.immOf (φ:=TaArg aa l) hO pk_));refine cu_ ?_;clear hO;(try clear hf);intro w8 hO hf))|(go_at_call 16;(with_reducible apply Calls.mono (HL _ (Own.immOf (φ:=TaArg aa l) hO pk_));rintro e8 w8 ⟨rfl,rfl⟩;dsimp only))|(go_at_call 17;(with_reducible refine Does.use hO (HS) tk_ (du_ ?_);clear hO;(try clear hf);intro x9 w9 hO hf;(obtain ⟨p,e⟩:=x9;dsimp only at hO ⊢;(replace hf:=fa_ hO))))|(refine sq_ ?_;clear hO;(try clear hf);intro w9 hO hf))
 all_goals try (exfalso;omega;done)
 go_upto_region 11 with (first|(go_at_call 17;(with_reducible refine Does.use hO (HS) tk_ (du_ ?_);clear hO hf;intro x9 w9 hO hf;(obtain ⟨p2,o⟩:=x9;dsimp only at hO ⊢;(replace hf:=fa_ hO))))|(go_at_call 53;(with_reducible refine Does.use hO (HP e p) tk_ (du_ ?_);clear hO hf;intro x9 w9 hO hf;(obtain ⟨q,oa,oc,dl,run,out⟩:=x9;dsimp only at hO ⊢;(replace hf:=fa_ hO))))|(refine sq_ ?_;clear hO hf;intro w9 hO hf))
 all_goals try (exfalso;omega;done)
 have HQ:=Lib.hid (run.ok H0 (by omega));have HSR:=Lib.hid (SerI.run run HSI.out H0 (by omega) fun _ h=>h);have HOUT:=Lib.hid out;have hnB:=HQ.out.c.nB;have hl40:=HQ.out.c.len40;have HO0:=Lib.hid (show OIn q.c c0 (0-1) from ⟨by rw [f1];exact H0.c,f4,f1,((run.past H0 (by omega)).2 _ (Nat.le_refl _)).symm⟩);have hlen:∀d∈dl,d.L.length≤90:=fun d hd=>by
  have h1:=(run.len (K:=0) ⟨fun i=>Nat.le_refl _,fun d hd=>by cases hd⟩).2 d.dl (by rw [out];exact List.mem_map.2 ⟨d,hd,rfl⟩);have h2:d.L.length≤0+l.length:=h1;omega
 have hdl90:dl.length≤90:=by
  have h1:=run.outlen;rw [out,List.length_map] at h1;have h2:dl.length≤0+l.length:=h1;omega
 have HLN:=Lib.hid hlen;clear run out H0 HSI f1 f2 f4 HL HS HP hlen;replace hO:=hO.take (rs:=[.imm (fun w=>ValsAt w oa (dl.flatMap nvC)),.imm (fun w=>zD5 w dl)]) tk_;simp only [List.cons_append,List.nil_append] at hO;replace hO:=hO.and;replace hO:=hO.take (rs:=[.imm (TaArg aa l),.imm (fun w=>ValsAt w oa (dl.flatMap nvC)∧zD5 w dl)]) tk_;simp only [List.cons_append,List.nil_append] at hO;replace hO:=hO.and.imp (ψ:=SerM aa l oa dl) (fun w h=>h);(replace hf:=fa_ hO);go_wp2_with (refine sq_ ?_;clear hO hf;intro w9 hO hf);have HNW:=zEE e p 70 q.c q.D;have hO9:Own (fun _=>False) W _ [EngR e p 70 q.c q.D,zAC p q.c.d,EngR o p2 70 c0 (fun _=>none),zAC p2 c0.d,.imm LibOk,.imm (SerM aa l oa dl)]:=hO.cut sb_;clear hO hf;go_loopw [10] (fun v10 wr=>∃(n:Nat) (co:Core),v10=.int .i64 (n:Int)∧n≤q.c.nn+1∧Hid (OIn q.c co (n-1))∧Own (fun _=>False) W wr [EngR e p 70 q.c q.D,zAC p q.c.d,EngR o p2 70 co (fun _=>none),zAC p2 co.d,.imm LibOk,.imm (SerM aa l oa dl)]) (fun v _=>q.c.nn+2-(intOf v).toNat)
 case atStart=>exact ⟨0,c0,rfl,by omega,HO0,hO9⟩
 case round=>
  clear hO9 HO0;obtain ⟨n,co,rfl,hnn,HOI,hO⟩:=hrel;rename World=>w1
  (replace hf:=fa_ hO);by_cases hle:n≤q.c.nn
  ·go_wp2_with (first|(go_at_call 34;(with_reducible refine Does.use hO (HNW) tk_ (du_ ?_);clear hO;(try clear hf);intro x9 w9 hO hf))|(refine sq_ ?_;clear hO;(try clear hf);intro w9 hO hf));all_goals try (exfalso;omega;done)
   have hO9:Own (fun _=>False) W _ [EngR e p 70 q.c q.D,zAC p q.c.d,EngR o p2 70 co (fun _=>none),zAC p2 co.d,.imm LibOk,.imm (SerM aa l oa dl)]:=hO.cut sb_;clear hO hf;generalize co=co0 at *;go_loopw [11] (fun v11 wr=>∃(k:Nat) (co:Core),v11=.int .i64 (k:Int)∧k≤2∧Hid (OIn q.c co (if k=0 then n-1 else n))∧Own (fun _=>False) W wr [EngR e p 70 q.c q.D,zAC p q.c.d,EngR o p2 70 co (fun _=>none),zAC p2 co.d,.imm LibOk,.imm (SerM aa l oa dl)]) (fun v _=>3-(intOf v).toNat)
   case atStart=>exact ⟨0,co0,rfl,by omega,HOI,hO9⟩
   case round=>
    clear hO9 HOI;obtain ⟨k,co,rfl,hk2,HOI,hO⟩:=hrel;rename World=>w2
    (replace hf:=fa_ hO);by_cases hkl:k<2
    ·go_wp2_with (refine sq_ ?_;clear hO;(try clear hf);intro w9 hO hf);all_goals try (exfalso;omega;done)
     have hO9:Own (fun _=>False) W _ [EngR e p 70 q.c q.D,zAC p q.c.d,EngR o p2 70 co (fun _=>none),zAC p2 co.d,.imm LibOk,.imm (SerM aa l oa dl)]:=hO.cut sb_;clear hO hf;have HO0:=Lib.hid (show OIn q.c co (if k=0 then n-1+wrN q.out n 0 else n) from by
      rw [show wrN q.out n 0=0 from rfl,Nat.add_zero];exact HOI.out)
     generalize co=co0 at *;go_loopw [12] (fun v12 wr=>∃(i:Nat) (co:Core),v12=.int .i64 (i:Int)∧i≤dl.length∧Hid (OIn q.c co (if k=0 then n-1+wrN q.out n i else n))∧Own (fun _=>False) W wr [EngR e p 70 q.c q.D,zAC p q.c.d,EngR o p2 70 co (fun _=>none),zAC p2 co.d,.imm LibOk,.imm (SerM aa l oa dl)]) (fun v _=>dl.length+1-(intOf v).toNat)
     case atStart=>exact ⟨0,co0,rfl,by omega,HO0,hO9⟩
     case round=>
      clear hO9 HO0 HOI;obtain ⟨i,co,rfl,hi,HOI,hO⟩:=hrel;rename World=>w3
      (replace hf:=fa_ hO);by_cases hil:i<dl.length
      ·skip;obtain ⟨b,off,rfl⟩:∃b off,oa=some ⟨b,off,none⟩:=by
        rcases (Own.immOf (φ:=SerM aa l oa dl) hO pk_).2.1 with h0 | ⟨b,off,h0,_⟩
        ·exfalso;have h1:(dl.flatMap nvC).length=0:=by rw [h0];rfl
         have h2:=zEl (f:=nvC) (k:=4) (fun _=>rfl) hil 0 _ rfl;rw [h0] at h2;cases h2
        ·exact ⟨b,off,h0⟩
       obtain ⟨c0,c1,c2,c3⟩:=zSG (Own.immOf (φ:=SerM aa l (some ⟨b,off,none⟩) dl) hO pk_).2.1 hil;have hvm:=List.getElem_mem hil;have hie:i<q.out.length:=by rw [HOUT.out,List.length_map];exact hil
       have hoe:q.out[i]=(dl[i]).dl:=by simp only [HOUT.out,List.getElem_map]
       have hws:=zRw n hie;have htd:=HSR.out.told _ (List.getElem_mem hie);rw [hoe] at hws htd;have hln:=HLN.out _ hvm;have HWS:=Lib.hid hws;have HTD:=Lib.hid htd;have HVM:=Lib.hid hvm;clear hws htd hvm hie hoe;generalize dl[i]=d at *;obtain ⟨da,dr,daa,dac,dsa,dsc,dL⟩:=d;dsimp only at c0 c1 c2 c3 hln;have hen:(NV.dl ⟨da,dr,daa,dac,dsa,dsc,dL⟩).at_=da.toNat∧(NV.dl ⟨da,dr,daa,dac,dsa,dsc,dL⟩).reads=dr∧(NV.dl ⟨da,dr,daa,dac,dsa,dsc,dL⟩).acts=dL:=⟨rfl,rfl,rfl⟩
       generalize NV.dl ⟨da,dr,daa,dac,dsa,dsc,dL⟩=e0 at *;obtain ⟨ea,er,eL⟩:=e0;dsimp only at hen;obtain ⟨rfl,rfl,rfl⟩:=hen;by_cases hda:da=(n:Int)
       ·subst hda;rcases (show k=0∨k=1 by omega) with rfl | rfl
        ·cases er with
         | true=>
          as_aux_lemma=>
           have HNB:=fun (_:0=0)=>show ¬wrB n ⟨((n:Nat):Int).toNat,true,eL⟩=true by simp [wrB]
           have HN:=Lib.hid (show OIn q.c co (if 0=0 then n-1+wrN q.out n (i+1) else n) from by
            have h1:=HOI.out;by_cases hk0:0=0
            ·rw [if_pos hk0] at h1 ⊢;rw [HWS.out,if_neg (HNB hk0)];exact h1
            ·rw [if_neg hk0] at h1 ⊢;exact h1)
           clear HNB;go_wp2_with (refine sq_ ?_;clear hO;(try clear hf);intro w9 hO hf);all_goals try (exfalso;omega;done)
           exact ⟨⟨i+1,co,by go_num,by omega,HN,hO.cut sb_⟩,by simp [intOf];omega⟩
         | false=>
          as_aux_lemma=>
           have hw1:wrB n ⟨((n:Nat):Int).toNat,false,eL⟩=true:=by simp [wrB]
           have hws:=HWS.out;rw [hw1,if_pos rfl] at hws;have hw0:wrN q.out n i=0:=by
            have h1:=zTr (out:=q.out) n (i:=i+1) (k:=dl.length) (by omega);have h2:=zOW q.out n;rw [HSR.out.one n,show q.out.length=dl.length from by rw [HOUT.out,List.length_map]] at h2;split at h2<;>omega
           have HOC:OIn q.c co (if false=true then n else n-1):=by
            have h1:=HOI.out;rw [if_pos rfl,hw0] at h1;exact h1
           have hn1:=(HTD.out.1.wr rfl).1;obtain ⟨C,R,t1,t2,t3⟩:=HTD.out.1.turn (co:=co) (n:=n) rfl HOC;have HAL:=zJL o p2 co HOC.ok HOC.f (by have h1:=HOC.nn;rw [if_neg (by simp)] at h1;omega) n false daa dsa dac dsc eL C R t1 (by omega) (fun z hz=>hlt _ (HTD.out.2 z hz)) t2 (φ:=SerM aa l (some ⟨b,off,none⟩) dl) (fun w h=>h.alone HVM.out HTD.out.2);have HNX:=Lib.hid (show ∀y:AlX co C n,OIn q.c y.c' (if 0=0 then n-1+wrN q.out n (i+1) else n) from fun y=>by
            have h1:1≤n:=hn1;rw [if_pos rfl,hws,hw0,show n-1+(0+1)=n from by omega];exact y.oin t3)
           clear t1 t2 t3 hw1 hws hw0 HOC hn1;go_wp2_with (first|(go_at_call 58;(with_reducible refine Does.use hO (HAL) tk_ (du_ ?_);clear hO;(try clear hf);intro x9 w9 hO hf))|(refine sq_ ?_;clear hO;(try clear hf);intro w9 hO hf));all_goals try (exfalso;omega;done)
           exact ⟨⟨i+1,_,by go_num,by omega,Lib.hid (HNX.out x9),hO.cut sb_⟩,by simp [intOf];omega⟩
        ·cases er with
         | false=>
          as_aux_lemma=>
           have HNB:=fun (h:1=0)=>show ¬wrB n ⟨((n:Nat):Int).toNat,false,eL⟩=true from absurd h (by omega)
           have HN:=Lib.hid (show OIn q.c co (if 1=0 then n-1+wrN q.out n (i+1) else n) from by
            have h1:=HOI.out;by_cases hk0:1=0
            ·rw [if_pos hk0] at h1 ⊢;rw [HWS.out,if_neg (HNB hk0)];exact h1
            ·rw [if_neg hk0] at h1 ⊢;exact h1)
           clear HNB;go_wp2_with (refine sq_ ?_;clear hO;(try clear hf);intro w9 hO hf);all_goals try (exfalso;omega;done)
           exact ⟨⟨i+1,co,by go_num,by omega,HN,hO.cut sb_⟩,by simp [intOf];omega⟩
         | true=>
          as_aux_lemma=>
           have HOC:OIn q.c co (if true=true then n else n-1):=by
            have h1:=HOI.out;rw [if_neg (by omega)] at h1;rw [if_pos rfl];exact h1
           obtain ⟨C,R,t1,t2,t3⟩:=HTD.out.1.turn (co:=co) (n:=n) rfl HOC;have HAL:=zJL o p2 co HOC.ok HOC.f (by have h1:=HOC.nn;rw [if_pos rfl] at h1;omega) n true daa dsa dac dsc eL C R t1 (by omega) (fun z hz=>hlt _ (HTD.out.2 z hz)) t2 (φ:=SerM aa l (some ⟨b,off,none⟩) dl) (fun w h=>h.alone HVM.out HTD.out.2);have HNX:=Lib.hid (show ∀y:AlX co C n,OIn q.c y.c' (if 1=0 then n-1+wrN q.out n (i+1) else n) from fun y=>by
            rw [if_neg (by omega)];exact y.oin t3)
           clear t1 t2 t3 HOC;go_wp2_with (first|(go_at_call 58;(with_reducible refine Does.use hO (HAL) tk_ (du_ ?_);clear hO;(try clear hf);intro x9 w9 hO hf))|(refine sq_ ?_;clear hO;(try clear hf);intro w9 hO hf));all_goals try (exfalso;omega;done)
           exact ⟨⟨i+1,_,by go_num,by omega,Lib.hid (HNX.out x9),hO.cut sb_⟩,by simp [intOf];omega⟩
       ·have HNB:=fun (_:k=0)=>show ¬wrB n ⟨da.toNat,er,eL⟩=true from fun h=>by
         unfold wrB at h;rw [Bool.and_eq_true,Bool.not_eq_true'] at h;have h1:da.toNat=n:=of_decide_eq_true h.2;have h2:1≤da.toNat:=(HTD.out.1.wr h.1).1;omega
        have HN:=Lib.hid (show OIn q.c co (if k=0 then n-1+wrN q.out n (i+1) else n) from by
         have h1:=HOI.out;by_cases hk0:k=0
         ·rw [if_pos hk0] at h1 ⊢;rw [HWS.out,if_neg (HNB hk0)];exact h1
         ·rw [if_neg hk0] at h1 ⊢;exact h1)
        clear HNB;rcases (show k=0∨k=1 by omega) with rfl | rfl
        all_goals
         as_aux_lemma=>
          go_wp2_with (refine sq_ ?_;clear hO;(try clear hf);intro w9 hO hf);all_goals try (exfalso;omega;done)
          exact ⟨⟨i+1,by go_num,by omega,co,HN,hO.cut sb_⟩,by simp [intOf];omega⟩
      ·as_aux_lemma=>
       obtain rfl:i=dl.length:=by omega
       have HN:=Lib.hid (show OIn q.c co (if k+1=0 then n-1 else n) from by
        rw [if_neg (by omega)];have h1:=HOI.out;have h2:=zOW q.out n;rw [HSR.out.one n] at h2;rw [show q.out.length=dl.length from by rw [HOUT.out,List.length_map]] at h2;rw [h2] at h1;by_cases hk0:k=0
        ·rw [if_pos hk0] at h1;by_cases hn0:1≤n
         ·rw [if_pos ⟨hn0,hle⟩] at h1
          rwa [show n-1+1=n from by omega] at h1
         ·rw [if_neg (fun h=>hn0 h.1)] at h1
          rwa [show n-1+0=n from by omega] at h1
        ·rw [if_neg hk0] at h1;exact h1)
       go_wp2_with (refine sq_ ?_;clear hO;(try clear hf);intro w9 hO hf);all_goals try (exfalso;omega;done)
       exact ⟨⟨k+1,co,by go_num,by omega,HN,hO.cut sb_⟩,by simp [intOf];omega⟩
    ·obtain rfl:k=2:=by omega
     have HN:=Lib.hid (show OIn q.c co (n+1-1) from HOI.out);go_wp2_with (refine sq_ ?_;clear hO;(try clear hf);intro w9 hO hf);all_goals try (exfalso;omega;done)
     exact ⟨⟨n+1,co,by go_num,by omega,HN,hO.cut sb_⟩,by simp [intOf];omega⟩
  ·as_aux_lemma=>
   obtain rfl:n=q.c.nn+1:=by omega
   have ho:=HOI.out;have e1:co.nn=q.c.nn:=ho.nn;have e2:co.at co.nn=q.c.at q.c.nn:=by rw [ho.at_,e1]
   have HRe:=zCM e p 70 q.c q.D (by omega);have HRo:=zCM o p2 70 co (fun _=>none) (by rw [e2];omega);have HNo:=zEE o p2 70 co (fun _=>none);rw [e2] at HRo;rw [e1] at HNo;generalize q.c.at q.c.nn=rs at *;clear ho e1 e2;go_wp2_with (first|(go_at_call 34;(with_reducible apply Does.use hO (HNW);exact tk_;refine du_ ?_;clear hO;(try clear hf);intro x9 w9 hO hf))|(go_at_call 34;(with_reducible apply Does.use hO (HNo);exact tk_;refine du_ ?_;clear hO;(try clear hf);intro x9 w9 hO hf))|(go_at_call 37;(with_reducible apply Does.use hO (HRo);exact tk_;refine du_ ?_;clear hO;(try clear hf);intro x9 w9 hO hf;(obtain ⟨xa1,xc1⟩:=x9;dsimp only at hO ⊢;replace hO:=hO.rowImm (a:=xa1) (n:=rs.length) (c:=xc1) (xs:=rs.flatMap rwC) pk_;(replace hf:=fa_ hO))))|(go_at_call 37;(with_reducible apply Does.use hO (HRe);exact tk_;refine du_ ?_;clear hO;(try clear hf);intro x9 w9 hO hf;(obtain ⟨xa0,xc0⟩:=x9;dsimp only at hO ⊢;replace hO:=hO.rowImm (a:=xa0) (n:=rs.length) (c:=xc0) (xs:=rs.flatMap rwC) pk_;(replace hf:=fa_ hO))))|(go_at_call 36;(with_reducible apply Calls.mono (zCA xa1 xa0 rs.length xc1 xc0 rs _ rfl (by omega) (Own.immOf (φ:=fun w=>ValsAt w xa1 (rs.flatMap rwC)) hO pk_) (Own.immOf (φ:=fun w=>ValsAt w xa0 (rs.flatMap rwC)) hO pk_));refine cu_ ?_;clear hO;(try clear hf);intro w8 hO hf))|(refine sq_ ?_;clear hO;(try clear hf);intro w9 hO hf));all_goals try (exfalso;omega;done)
   go_ret;exact ⟨rfl,hO.toExt⟩
