/- Texts joined. -/
import Derived.Test.YtoeidadjhkkioaaGreatDoorRows
import Derived.ChangeVars
import Derived.JoinedOf
import Derived.RowKit
import Derived.WalkKit
import Derived.ProofKit
import Derived.OpenShut
import Derived.ChangeOld
import Derived.Carry
import Derived.Test.YtoeidadjhkkioaaGreatDoorZ7
set_option linter.unusedVariables false
set_option linter.unusedSimpArgs false
namespace Go.Ar
open Go Go.Vc Go.Proofs
open Go.Vc (bU dB cT)
variable {thread:Int}{U σ0 v w w':Hp}{F P Q X T Tc:Rg}{L:dH}{H H' H1:Hw}{held:List Pc}{s0 sp:Sp}{t n:Nat}{gb km fm m pp:Nat}{x y x':Gu}{b:B5}{qb:Nat}{Qq Qr:Rg}{qs rs:Sl}{q q':Qu}
def QO (σ0 U w:Hp)(pp gb km fm qb:Nat)(Tc:Rg)(H':Hw)(x':Gu)(q':Qu):Prop:=
 ∃L' held' s0' P' Qq' Qr' qs' rs',QP σ0 w L' H' held' s0' P' gb km fm x' qb Qq' Qr' qs' rs' q'/\L'.p=pp/\Ext Tc U w/\∀c,lD P' gb km fm qb Qq' Qr' c->Tc c\/U.size<=c
theorem QO.fr (o:QO σ0 U w pp gb km fm qb Tc H x q)(e:bL w w'):QO σ0 U w' pp gb km fm qb Tc H x q:=by
 obtain⟨L',a,d,P',Qq',Qr',b,g,h,m,j,i⟩:=o;exact⟨L',a,d,P',Qq',Qr',b,g,h.fr e,m,j.fT e,i⟩
theorem QP.qo (o:QP σ0 U L H held s0 P gb km fm x qb Qq Qr qs rs q)(e:bL U w):QO σ0 U w L.p gb km fm qb (lD P gb km fm qb Qq Qr) H x q:=
 ⟨L,held,s0,P,Qq,Qr,qs,rs,o.fr e,rfl,bL.to e,λc a=>.inl a⟩
theorem QO.then (e:Ext Tc U v)(hc:∀c,T c->Tc c\/U.size<=c)(o:QO σ0 v w pp gb km fm qb T H x q):QO σ0 U w pp gb km fm qb Tc H x q:=by
 obtain⟨L',a,d,P',Qq',Qr',g,i,h,m,j,b⟩:=o;have p:=e.1;exact⟨L',a,d,P',Qq',Qr',g,i,h,m,Ext.dS e j λc h=>hc c h,λc h=>(b c h).elim (hc c) λh=>.inr O⟩
theorem gS.bT (r:gS thread H x q H' x' q'):QQ H' H:=by
 cases r with
 | none h1 h2=>exact QQ.refl _
 | stay h1 h2 h3 h4=>exact QQ.refl _
 | free h1 h2 h3 h4 hw op fe=>exact op.kp
theorem gS.len (r:gS thread H x q H' x' q'):q'.q.length+1=q.q.length/\q'.bl=q.bl/\q'.by'=q.by'/\q'.rs.length<=q.rs.length+1/\∃e,q.q=e::q'.q:=by
 cases r with
 | none h1 h2=>rw[h1];exact⟨rfl,rfl,rfl,Nat.le_succ _,_,rfl⟩
 | stay h1 h2 h3 h4=>
  rw[h1];refine⟨rfl,rfl,rfl,?_,_,rfl⟩;show(if _ then _ else _:List P2).length<=_
  split
  ·omega
  ·simp
 | free h1 h2 h3 h4 hw op fe=>
  rw[h1];refine⟨rfl,rfl,rfl,?_,_,rfl⟩;show(if _ then _ else _:List P2).length<=_
  split
  ·omega
  ·simp
theorem gS.kn (r:gS thread H x q H' x' q'):∀e∈x'.kn,e∈x.kn:=by
 cases r with
 | none h1 h2=>exact λe h=>h
 | stay h1 h2 h3 h4=>exact λe h=>h
 | free h1 h2 h3 h4 hw op fe=>exact λk a=>(zI.1 (show k∈x.kn.filter _ from a)).1
theorem gS.kl (r:gS thread H x q H' x' q'):x'.kn.length<=x.kn.length:=by
 cases r with
 | none h1 h2=>exact zD _
 | stay h1 h2 h3 h4=>exact zD _
 | free h1 h2 h3 h4 hw op fe=>exact pd _ _
set_option maxRecDepth 16000 in
theorem Fh (o:QP σ0 U L H held s0 P gb km fm x qb Qq Qr qs rs q)(gc:Gc σ0)(xi:∀e∈x.kn,e.1=e.2.1/\ie e.2)(hkl:x.kn.length<=1000000)(hqi:∀e∈q.q,ku e.1)(hq:q.q≠[])(hrl:q.rs.length<10000){R:aP}
 (hR:∀w H' x' q',gS thread H x q H' x' q'->QO σ0 U w L.p gb km fm qb (lD P gb km fm qb Qq Qr) H' x' q'->R w):WG.c (aW qb) thread U R:=by
 refine WG.o ?_;unfold WG.v;obtain⟨e,r,g⟩:=List.exists_cons_of_ne_nil hq;have hql:=o.rq.ky;rw[g,zV]at hql;have h0:q.q[0]?=some e:=by rw[g];rfl
 have hI:=o.i;have hes:=hI.qs e (by rw[g];exact ni);have hei:=hqi e (by rw[g];exact ni);have G:sQ {q with q:=r}:=⟨hI.bl,hI.by',by have:=hI.ql;rw[g,zV]at this;show r.length<=66;omega,λk hk=>hI.qs k (by rw[g];exact mS _ hk),hI.rl⟩;refine aG (o.b.rS rfl (sY (i:=0) (bS.fX o.rq) h0 λbb oo d=>eY (d 0 _ rfl) (eY (d 1 _ rfl) (ui λv2 e2 z2 b2=>?_))));have o2:=o.fr e2;have hcap:qs.len<=qs.cap:=bS.py o2.rq;refine aG (o2.b.rS rfl (jj (lo:=1) aC aC aC ?_));have Y:=cV.sub (bS.fX o2.rq) (lo:=1) (hi:=qs.len) (mx:=qs.cap) O (zD _) hcap;have qF:((gL q.q).drop (1*2)).take ((qs.len-1)*2)=gL r:=by
  rw[←FP,g,uM,ye,lz (by rw[Ux];omega)]
 rw[qF]at Y;refine NQ Y (by simp only;have:=hI.ql;rw[g,zV]at this;omega) λs3 v3 e3 r3=>?_;have E3:=e2.trans e3;have r3':=aI.cut r3;have z2':=e2.1;have z3:=e3.1;have hqbl:=o.b.lt;refine aG (o2.xp (bL.to e3) r3' (λc d=>.inr d) G λv4 e4 o4=>?_);have b4:=e4.bW (e3.bW b2 id) (λ(h:U.size=qb)=>O);have E4:Ext (lD P gb km fm qb Qq Qr) U v4:=(bL.to E3).trans (e4.sub λc d=>.inr (.inl d));have z4:=e4.1;have base:∀{P' Qr':Rg},(∀c,P' c->P c\/v4.size<=c)->(∀c,Qr' c->Qr c\/v4.size<=c)->∀c,lD P' gb km fm qb (Cut (λb=>v2.size<=b) v3) Qr' c->lD P gb km fm qb Qq Qr c\/U.size<=c:=λ{P' Qr'} hP hQ c d=>by
  rcases d with(h|h)|h|h|h
  ·exact(hP c h).imp (λh=>.inl (.inl h)) λh=>by omega
  ·exact .inl (.inl (.inr h))
  ·exact .inl (.inr (.inl h))
  ·right;have:v2.size<=c:=h.1;omega
  ·exact(hQ c h).imp (λh=>.inr (.inr (.inr h))) λh=>by omega
 have Z:∀w,bL v4 w->(bU x.kn e.1=none\/ly H x e.1≠0)->R w:=λw E hx=>hR w H x {q with q:=r} (.none g hx) ⟨L,held,s0,P,_,Qr,s3,rs,o4.fr E,rfl,E4.fT E,base (λc d=>.inl d) λc d=>.inl d⟩;refine b4.rI rfl (CP o4 xi hkl hei (λw5 e5 hn=>qG λw6 e6 b6=>cD rfl (Z w6 (e5.trans e6) (.inl hn))) λw5 bk e5 hg=>qG λab e10 b10=>cE rfl ?_);have bi:ie bk:=(xi _ (KK hg)).2;have bb':=bi.base;have bz:=bi.z;have bm:=bi.m;have bt:=bi.t;have bs:=bi.s;have hww:=Z0 (n:=bk.2.1) O;have E510:=e5.trans e10;have fZ:=o4.fr E510;have b4':=E510.bW b4 id;refine⟨λm=>bL ab m,Ext.refl _ _,aG (im (c:=.p) (y:=some ⟨gb,0,none⟩) (λm e=>e.bW fZ.b id) rfl (im (c:=bO) (y:=e.1) (λm e=>e.bW b4' id) rfl ?_))⟩;refine Jz fZ.p xi e.1 λs11 v11 Q11 F V hQ11=>cU (λD=>Z v11 (E510.trans F) (.inr (by simpa using D))) λhe0=>?_;have j:ly H x e.1=0:=by simpa using he0
 have hlo:Ut H bk=false:=by
  unfold ly at j;rw[hg]at j;simp only at j;cases hl:Ut H bk with
  | false=>rfl
  | true=>rw[hl]at j;simp at j
 have hckl:uo H x e.1=QC H.sp bk:=by
  unfold uo;rw[hg];simp only;rw[hlo];rfl
 rw[hckl]at V;have A:=F.bW b10 id;refine A.rI rfl (A.rI rfl (A.rI rfl (A.rI rfl (Bp bi λs12 v12 Q12 M X Q=>?_))));have hwn:(Yb bk).length=Qm bk:=by simp[Yb]
 have hwn2:Qm bk<=200:=by unfold Qm;omega
 have hbl:(QC H.sp bk).length<=40000:=by
  have:=pd (jE H.sp) (Zq bk);have hz:=GB bk;have h3:VE bk<=250:=by unfold VE;omega
  have h4:GQ bk<=33750:=by unfold GQ;omega
  unfold QC;omega
 have hs12l:s12.len=Qm bk:=by have:=X.1;simp[WD,hwn]at this;omega
 have hs11':=aI.bP V M;have E12:=(E510.trans F).trans M
 let f:Int->Bool:=λz=>eO H.sp z != 0||Ka H.sp z != uW
 have hfu:(Yb bk).filter f=DA H.sp bk:=rfl;have hfe:∀z,f z=(eO H.sp z != 0||Ka H.sp z != uW):=λz=>rfl
 clear_value f
 have z10:=E510.1;have z11:=F.1;have z12:=M.1;refine Us (a:=.s) (bb:=bO) (λ(wr:Sl) (z:Int) u=>bL ab u/\v12.size<=u.size/\bS s12 1 (WD (Yb bk)) u Q12/\∃(i:Nat) (Qw:Rg),z=i/\i<=Qm bk/\bS wr 1 (WD (QC H.sp bk++((Yb bk).take i).filter f)) u Qw/\∀c,Qw c->ab.size<=c/\c<u.size/\¬Q12 c) (λ_ z _=>Qm bk-z.toNat)
  ⟨F.trans M,zD _,X,0,Q11,rfl,O,by rw[Al,List.filter_nil,lC];exact hs11',λc d=>by have:=hQ11 c d;exact⟨O,O,λh=>by have:=Q c h;omega⟩⟩ ?_
 rintro(wr:Sl) (z:Int) u ⟨eu,zu,hs12u,i,Qw,rfl,hi,hrw,hQw⟩;have E12u:=E510.trans eu;have K:=o4.fr E12u;have hfl:(((Yb bk).take i).filter f).length<=i:=j9 (pd _ _) (by rw[zY];omega);refine cQ (λhlt=>?_) λhge=>?_
 ·have hx:(Yb bk)[i]?=some ((Yb bk)[i]' O):=cX _;generalize ((Yb bk)[i]' O)=zz at hx;have hzi:=HC bi (zG hx);have htk:((Yb bk).take (i+1)).filter f=((Yb bk).take i).filter f++(if f zz then[zz]else[]):=by
   rw[ko,hx,r9,xk]
   congr 1
   by_cases h:f zz=true
   ·rw[vW h,zC h];rfl
   ·rw[wN h,zB h];rfl
  refine(bS.fX hs12u).mi hx (aG (K.b.rP rfl (y7 K.p (Cs K.p.h zz O λw13 B=>?_))));refine KH (λr w=>w=w13/\r=f zz) (λr w ⟨hw,hr⟩=>?_) λJ hJ=>cU (λh=>hJ _ _ ⟨rfl,by rw[hfe,h];rfl⟩) λh=>hJ _ _ ⟨rfl,by rw[hfe,h];rfl⟩;rw[hw,hr];have z13:=B.1;have S:=aI.bP hs12u B;refine cU (λht=>?_) λhf=>cS (m:=i+1) O O ⟨⟨eu.trans B,O,S,i+1,Qw,rfl,O,by rw[htk,hf];simpa using aI.bP hrw B,λc d=>by have:=hQw c d;exact⟨this.1,O,this.2.2⟩⟩,O⟩;refine BN (aI.bP hrw B) (by rw[zM];omega) zz λs' w14 aa hr14=>?_;have z14:=aa.1;refine cS (m:=i+1) O O ⟨⟨Ext.fresh (eu.trans B) aa λc d=>(hQw c d).1,O,aI.bT S aa λc _ h1 h2=>(hQw c h2).2.2 h1,i+1,_,rfl,O,by rw[htk,ht,zC rfl,←zr];exact hr14,λc d=>?_⟩,O⟩;rcases d with d|d
  ·have:=hQw c d;exact⟨this.1,O,this.2.2⟩
  ·exact⟨by have:=eu.1;omega,d.2,λh=>by have:=Q c h;omega⟩
 ·have hin:i=Qm bk:=by omega
  subst hin;have hwr:QC H.sp bk++((Yb bk).take (Qm bk)).filter f=KO H bk:=by
   rw[lz O,hfu];rfl
  rw[hwr]at hrw;have hwl:wr.len=(KO H bk).length:=by have:=hrw.1;simp[WD]at this;omega
  have hwb:(KO H bk).length<=1000000:=by rw[←hwr,zM];omega
  have C:=eu.bW b4' id;refine ub (λw=>bZ w U.size [.int .i64 e.1,.int .i64 e.2]/\Ext (lD P gb km fm qb Qq Qr) U w/\v4.size<=w.size/\∃Qr' N,(∀c,Qr' c->Qr c\/v4.size<=c)/\QP σ0 w L H held s0 P gb km fm x qb (Cut (λb=>v2.size<=b) v3) Qr' s3 N ⟨q.bl,q.by',r,if KO H bk=[]then q.rs else q.rs++[(e.1,mr (KO H bk))]⟩) (λw ⟨bw,Ew,zw,Qr',N,W,ow⟩=>?_) λJ hJ=>?_
  ·refine aG (ow.b.rP rfl (bw.rI rfl (Zb.o ?_)));unfold Zb.v;refine Fe ow.p gc xi thread e.1 false (λw2 D e2=>?_) λb2 w2 ts H1 ac s0' P' er hm hf hw op fe e2 p2 hP2=>?_
   ·refine hR w2 H x _ (.stay g hg j D) ⟨L,held,s0,P,_,Qr',s3,N,ow.fr e2,rfl,Ew.fT e2,base (λc d=>.inl d) W⟩
   ·rw[hg]at hm;cases hm;have o2':=ow.eZ e2 p2 hP2;refine hR w2 H1 _ _ (.free g hg j hf hw op fe) ⟨{L with ts:=ts},ac,s0',P',_,Qr',s3,N,o2',rfl,Ew.trans (e2.sub λc d=>.inl d),base (λc d=>(hP2 c d).imp id λh=>O) W⟩
  ·refine cQ (λhpos=>?_) λhneg=>?_
   ·have D:KO H bk≠[]:=λh=>by rw[h]at hwl;simp at hwl;omega
    refine⟨λm=>bZ m qb (uI gb {q with q:=r} s3 rs)/\bZ m U.size [.int .i64 e.1,.int .i64 e.2],⟨K.b,C⟩,aG (im (c:=.s) (y:=rs) (λm hm=>hm.1) rfl (im (c:=bO) (y:=e.1) (λm hm=>hm.2) rfl ?_))⟩;refine Rn (bS.fX hrw) hwb D ⟨⟨K.b,C⟩,?_⟩;have nr1:¬Qr qb:=o.tN.2.2.2;have nr2:¬Qr U.size:=λh=>by have:=(o.qr _ h).2.1;omega
    refine Jd K.rr (by show q.rs.length<=100000;omega) (e.1,mr (KO H bk)) (λw E=>⟨E.bW K.b id,E.bW C id⟩) λs' w E hr'=>⟨⟨E.bW K.b nr1,E.bW C nr2⟩,?_⟩;have qi2:sQ {({q with q:=r}:Qu)with rs:=q.rs++[(e.1,mr (KO H bk))]}:=⟨G.bl,G.by',G.ql,G.qs,by show(q.rs++[_]).length<=10000;rw[zM,uU];omega⟩;refine aG (K.gA E hr' (λc d=>d) qi2 λw2 e2 o2'=>hJ w2 ?_);have zw:=E.1;have zw2:=e2.1;refine⟨e2.bW (E.bW C nr2) (λ(h:U.size=qb)=>O),((E4.fT E12u).trans (E.sub λc d=>.inr (.inr (.inr d)))).trans (e2.sub λc d=>.inr (.inl d)),by have:=E12u.1;omega,_,s',λc (d:Qr c\/u.size<=c/\c<w.size)=>d.imp id λh=>(by have:=E12u.1;omega),?_⟩;rw[zB D];exact o2'
   ·have hnil:KO H bk=[]:=tO O;refine hJ u ⟨C,E4.fT E12u,by have:=E12u.1;omega,Qr,rs,λc d=>.inl d,?_⟩;rw[zC hnil];exact K
structure QS (x:Gu) (q:Qu):Prop where
 xi:∀e∈x.kn,e.1=e.2.1/\ie e.2
 kl:x.kn.length<=1000000
 qa:∀e∈q.q,ku e.1
 rl:q.rs.length+q.q.length<=9000
theorem gS.side (r:gS thread H x q H' x' q')(h:QS x q):QS x' q':=by
 obtain⟨i,_,_,g,e,b⟩:=r.len;exact⟨λe a=>h.xi e (r.kn e a),j9 r.kl h.kl,λk d=>h.qa k (by rw[b];exact mS _ d),by have:=h.rl;omega⟩
theorem NW (hi:sQ q)(h:pT q=true):q.q≠[]:=λe=>by
 unfold pT at h;rw[e]at h;have:=hi.bl;have:=hi.by';simp[iJ]at h;omega
theorem On {thread:Int}{K:aP}(o:QP σ0 U L H held s0 P gb km fm x qb Qq Qr qs rs q)(gc:Gc σ0)(s:QS x q)
 (hR:∀w H' x' q',jA thread H x q H' x' q'->QO σ0 U w L.p gb km fm qb (lD P gb km fm qb Qq Qr) H' x' q'->K w) :
 Ya [] (λI1=>I1 U) λJ1 v17=>Jn [.b] (λ(t99:Bool) v18=>If t99 (WG.c (aW qb) thread v18 λv19=>J1 v19) (K v18)) λJ2=>
  dZ v17 λS1=>bX (some ⟨qb,0,none⟩) λa82=>gE S1 .s (a82.add 3) λ(t84:Sl)=>bX (some ⟨qb,0,none⟩) λa87=>gE S1 bO (a87.add 1) λ(t89:Int)=>If (decide (((t84.len:Nat):Int)>t89)) (J2 true v17)
   (bX (some ⟨qb,0,none⟩) λa95=>gE S1 bO (a95.add 2) λ(t97:Int)=>Wq.c (aW qb) v17 λt93 v20=>And (S1 v20)<|J2 (decide (t93>t97)) v20):=by
 refine Dh (λn u=>∃H1 j q1,n=q1.q.length/\QO σ0 U u L.p gb km fm qb (lD P gb km fm qb Qq Qr) H1 j q1/\(∀H' x' q',jA thread H1 j q1 H' x' q'->jA thread H x q H' x' q')/\QS j q1) ⟨_,H,x,q,rfl,o.qo (Ext.refl _ _),λ_ _ _ h=>h,s⟩ ?_;rintro n u ⟨H1,j,q1,rfl,Z,R,s1⟩ J1 J;obtain⟨L1,d,M,P1,Qq1,Qr1,a,D,o1,A,F,G⟩:=Z;refine yF (λr w=>bL u w/\r=pT q1) (λr w ⟨g,B⟩=>?_) λJ2 z=>?_
 ·have ow:=o1.fr g;refine cU (λY=>?_) λS=>hR w H1 j q1 (R _ _ _ (.stop (by rw[←B];exact S))) ⟨L1,d,M,P1,Qq1,Qr1,a,D,ow,A,F.fT g,G⟩;have E:pT q1=true:=by rw[←B];exact Y
  have W:=s1.rl;refine Fh ow gc s1.xi s1.kl s1.qa (NW o1.i E) O λV H2 X q2 fr C=>?_;have Q:=fr.len;refine J q2.q.length V O ⟨H2,X,q2,rfl,?_,λ_ _ _ h=>R _ _ _ (.next E fr h),fr.side s1⟩;rw[A]at C;exact QO.then (F.fT g) G C
 ·have N:∀m,bL u m->bZ m qb (uI gb q1 a D):=λm e=>e.bW o1.b id;have Q:=o1.rq.ky;refine⟨λm=>bL u m,Ext.refl _ _,aG (im (c:=.s) (y:=a) N rfl (aG (im (c:=bO) (y:=q1.bl) N rfl (cQ (λh=>z _ _ ⟨Ext.refl _ _,?_⟩) λh=>aG (im (c:=bO) (y:=q1.by') N rfl (DQ o1 λw g=>⟨g,z _ _ ⟨g,?_⟩⟩))))))⟩
  ·unfold pT;rw[zJ (show(q1.q.length:Int)>q1.bl by rw[←Q];exact h)];rfl
  ·unfold pT;rw[zL (show ¬(q1.q.length:Int)>q1.bl by rw[←Q];exact h),vJ]
theorem Ro (o:QP σ0 U L H held s0 P gb km fm x qb Qq Qr qs rs q)(gc:Gc σ0)(s:QS x q)(thread:Int){R:Int->Int->Hp->Prop}(h0:∀w,QU H thread≠0->bL U w->R 0 (QU H thread) w)
 (h1:∀w H' x' q',QU H thread=0->jO thread H x q H' x' q'->QO σ0 U w L.p gb km fm qb (lD P gb km fm qb Qq Qr) H' x' q'->R (q.q.length:Int) 0 w):WB.c (aW qb) thread U R:=by
 refine WB.o ?_;unfold WB.v;refine IK o thread λv e=>cU (λa=>h0 v (by simpa using a) e) λC=>?_;have G:QU H thread=0:=by simpa using C
 have o1:=o.fr e;have E:=o.rq.ky;refine aG (o1.b.rS rfl ?_);refine Dh (λn u=>∃H1 g q1,n=q1.q.length/\QO σ0 U u L.p gb km fm qb (lD P gb km fm qb Qq Qr) H1 g q1/\(∀H' x' q',jO thread H1 g q1 H' x' q'->jO thread H x q H' x' q')/\QS g q1) ⟨_,H,x,q,rfl,o.qo e,λ_ _ _ h=>h,s⟩ ?_;rintro n u ⟨H1,g,q1,rfl,V,M,s1⟩ J1 D;obtain⟨L1,d,F,P1,Qq1,Qr1,K,J,o1,j,A,B⟩:=V;have m:=o1.rq.ky;refine aG (o1.b.rS rfl (cQ (λz=>?_) λr=>?_))
 ·have a:q1.q≠[]:=λh=>by rw[h]at m;simp at m;simp only at z;omega
  have Q:=s1.rl;refine Fh o1 gc s1.xi s1.kl s1.qa a O λN H2 S q2 fr y=>?_;have W:=fr.len;refine D q2.q.length N O ⟨H2,S,q2,rfl,?_,λ_ _ _ h=>M _ _ _ (.next fr h),fr.side s1⟩;rw[j]at y;exact QO.then A B y
 ·have i:q1.q=[]:=tO (by simp only at r;omega);have:=h1 u H1 g q1 G (M _ _ _ (.stop i)) ⟨L1,d,F,P1,Qq1,Qr1,K,J,o1,j,A,B⟩;rw[←E]at this;exact this
def r8 (H:Hw)(x:Gu)(q:Qu)(thread addr:Int):Int:=
 if QU H thread≠0 then QU H thread else if addr∈q.q.map (·.1)then 9 else match bU x.kn addr with
 | none=>mf H x thread addr true
 | some b=>if Ut H b then 5 else if QC H.sp b≠[]then 10 else 0
theorem PH {sp:Sp}{l:List Int}{n:Nat}{z:Int}(h:l[n]?=some z)(f:Int->Int):jJ sp (l.take (n+1)) f=ZM (jJ sp (l.take n) f) z (f z):=by
 rw[ko,h,r9,Bw]
set_option maxRecDepth 16000 in
theorem G7 (o:QP σ0 U L H held s0 P gb km fm x qb Qq Qr qs rs q)(gc:Gc σ0)(s:QS x q)(hq:q.q.length<=65)(hrl:q.rs.length+q.q.length<=8000)(thread:Int){addr:Int}(ha:ku addr){R:aN}(h0:∀w,r8 H x q thread addr≠0->bL U w->R (r8 H x q thread addr) w)
 (h1:∀w b H' x' q',bU x.kn addr=some b->r8 H x q thread addr=0->jA thread (eX H b) x {q with q:=q.q++[(addr,b.2.1)]} H' x' q'->QO σ0 U w L.p gb km fm qb (lD P gb km fm qb Qq Qr) H' x' q'->R 0 w):Wj.c (aW qb) thread addr U R:=by
 refine Wj.o ?_;unfold Wj.v;unfold r8 at h0 h1;refine IK o thread λv e=>cU (λj=>?_) λheq=>?_
 ·have hn:QU H thread≠0:=by simpa using j
  rw[zC hn]at h0;exact h0 v hn e
 have hrd:QU H thread=0:=by simpa using heq
 rw[zB (by rw[hrd];decide)]at h0 h1;have o1:=o.fr e;refine SI o1 addr λv1 e1=>cU (λhh=>?_) λhh=>?_
 ·have K:addr∈q.q.map (·.1):=by simpa using hh
  rw[zC K]at h0;exact h0 v1 aB (e.trans e1)
 have K:¬addr∈q.q.map (·.1):=by simpa using hh
 rw[zB K]at h0 h1;have o2:=o1.fr e1;refine CP o2 s.xi s.kl ha (λw2 e2 hn=>qG λw3 e3 b3=>cD rfl ?_) λw2 bk e2 D=>qG λw3 e3 b3=>cE rfl ?_
 ·rw[hn]at h0;have o3:=(o2.fr e2).fr e3;refine aG (o3.b.rP rfl (Lg (Fe o3.p gc s.xi thread addr true (λw4 j Q=>h0 w4 j ((((e.trans e1).trans e2).trans e3).trans Q)) λb w ts H1 held' B P' e S=>by rw[hn]at S;cases S)))
 rw[D]at h0;simp only at h0;have F:ie bk:=(s.xi _ (KK D)).2;have bb':=F.base;have bz:=F.z;have bm:=F.m;have bt:=F.t;have bs:=F.s;have hww:=Z0 (n:=bk.2.1) O;have E3:=((e.trans e1).trans e2).trans e3;have o3:=o.fr E3;refine aG (o3.b.rP rfl (Jz o3.p s.xi addr λs4 v4 Q4 Q aa _=>cU (λj=>?_) λhe0=>?_))
 ·have d:ly H x addr≠0:=by simpa using j
  have N:Ut H bk=true:=by
   unfold ly at d;rw[D]at d;simp only at d;cases N:Ut H bk with
   | true=>rfl
   | false=>rw[N]at d;simp at d
  have:ly H x addr=5:=by unfold ly;rw[D];simp only;rw[N];rfl
  rw[this];rw[N]at h0;exact h0 v4 aA (E3.trans Q)
 have d:ly H x addr=0:=by simpa using he0
 have M:Ut H bk=false:=by
  unfold ly at d;rw[D]at d;simp only at d;cases N:Ut H bk with
  | false=>rfl
  | true=>rw[N]at d;simp at d
 have W:uo H x addr=QC H.sp bk:=by
  unfold uo;rw[D];simp only;rw[M];rfl
 rw[W]at aa;rw[M]at h0;simp only[zZ,zp]at h0;have C:s4.len=(QC H.sp bk).length:=by have:=aa.1;simp[WD]at this;omega
 refine cQ (λhpos=>?_) λhneg=>?_
 ·have j:QC H.sp bk≠[]:=λh=>by rw[h]at C;simp at C;omega
  rw[zC j]at h0;exact h0 v4 aB (E3.trans Q)
 have Y:QC H.sp bk=[]:=tO O;have h1:=λw H' x' q'=>h1 w bk H' x' q' D (by rw[D];simp only;rw[M,Y];rfl);have b4:=Q.bW b3 id;have E4:=E3.trans Q;have o4:=o.fr E4;refine b4.rI rfl (b4.rI rfl (b4.rI rfl (b4.rI rfl (Bp F λs5 X Q5 e5 ad hQ5=>?_))));have hwn:(Yb bk).length=Qm bk:=by simp[Yb]
 have hwn2:Qm bk<=200:=by unfold Qm;omega
 have hs5l:s5.len=Qm bk:=by have:=ad.1;simp[WD,hwn]at this;omega
 have b5:=e5.bW b4 id;have E5:=E4.trans e5;have o5:=o.fr E5;have z4:=E4.1;have z5:=e5.1;have ab:=b5.lt;have J:U.size<=w2.size:=by have:=e.1;have:=e1.1;have:=e2.1;omega
 have V:∀c,U.size<=c->c<X.size->¬Mg P gb km fm c:=λc h1 h2 hM=>by have:=u6 o.p hM;omega
 have hnP:∀{P':Rg},(∀c,P' c->P c\/X.size<=c)->∀c,U.size<=c->c<X.size->¬P' c:=λhP c h1 h2 hp=>by
  rcases hP c hp with h|h
  ·have:=(o.p.pP c h).2;omega
  ·omega
 refine Qg (a:=bO) (λ(z:Int) u=>∃(i:Nat) (B:Sp) (P':Rg),z=i/\i<=Qm bk/\Ext (Mg P gb km fm) X u/\QP σ0 u L {H with sp:=jJ H.sp ((Yb bk).take i) λ_=>uW} held B P' gb km fm x qb Qq Qr qs rs q/\∀c,P' c->P c\/X.size<=c) (λz _=>Qm bk-z.toNat)
  ⟨0,s0,P,rfl,O,Ext.refl _ _,by rw[Al];exact o5,λc g=>.inl g⟩ ?_
 rintro(z:Int) u ⟨i,B,P',rfl,hi,eu,A,hP'⟩;have zu:=eu.1;have ac:bS s5 1 (WD (Yb bk)) u Q5:=aI.bT ad eu λc _ g hM=>by have:=hQ5 c g;exact V c O this.2 hM
 refine cQ (λhlt=>?_) λhge=>?_
 ·have hx:(Yb bk)[i]?=some ((Yb bk)[i]' O):=cX _;generalize ((Yb bk)[i]' O)=zz at hx;have hzi:=HC F (zG hx);refine(bS.fX ac).mi hx (aG (A.b.rP rfl (y7 A.p ?_)));refine A.p.write gc zz (-1234567) O λw6 s6 P6 e6 p6 Z=>?_;have o6:=A.eZ (e6.sub λc g=>.inl g) p6 Z;refine cS (m:=i+1) O O ⟨⟨i+1,s6,P6,rfl,O,Ext.dS eu e6 λc g=>(hP' c g).imp .inl id,?_,λc g=>?_⟩,O⟩
  ·rw[PH hx];exact o6
  ·rcases Z c g with h|h
   ·exact hP' c h
   ·exact .inr O
 ·have hin:i=Qm bk:=by omega
  subst hin;rw[lz O]at A;have A:QP σ0 u L (eX H bk) held B P' gb km fm x qb Qq Qr qs rs q:=A;have G:=eu.bW b5 (V _ J ab);have nq:¬Qq w2.size:=λh=>by have:=(o.qq _ h).2.1;omega
  refine⟨λm=>bZ m qb (uI gb q qs rs)/\bZ m w2.size (lu (bk.1,bk.2.1,bk.2.2.1,bk.2.2.2.1)),⟨A.b,G⟩,aG (im (c:=.s) (y:=qs) (λm K=>K.1) rfl (im (c:=bO) (y:=bk.2.1) (λm K=>K.2) rfl ?_))⟩;refine Jd A.rq (by have:=o.i.ql;omega) (addr,bk.2.1) (λw E=>⟨E.bW A.b id,E.bW G id⟩) λs' w E hr'=>⟨⟨E.bW A.b o.tN.2.2.1,E.bW G nq⟩,?_⟩;have qi2:sQ {q with q:=q.q++[(addr,bk.2.1)]}:=⟨o.i.bl,o.i.by',by show(q.q++[_]).length<=66;rw[zM,uU];omega,λk r=>by
   rcases zK.1 r with r|r
   ·exact o.i.qs k r
   ·rw[zP]at r;subst r;exact bs,o.i.rl⟩
  refine aG (A.xp E hr' (λc g=>g) qi2 λw2' e2' o2'=>?_);have qs2:QS x {q with q:=q.q++[(addr,bk.2.1)]}:=⟨s.xi,s.kl,λk r=>by
   rcases zK.1 r with r|r
   ·exact s.qa k r
   ·rw[zP]at r;subst r;exact ha,by show q.rs.length+(q.q++[_]).length<=9000;rw[zM,uU];omega⟩
  have zw:=E.1;refine On o2' gc qs2 λw3' H' x' q' hov oo=>h1 w3' H' x' q' hov ?_;refine QO.then (v:=w2') (T:=lD P' gb km fm qb (λb=>Qq b\/u.size<=b/\b<w.size) Qr) ((((bL.to E5).trans (eu.sub λc g=>.inl g)).trans (E.sub λc g=>.inr (.inr (.inl g)))).trans (e2'.sub λc g=>.inr (.inl g))) (λc g=>?_) oo;have:=E5.1;rcases g with(h|h)|h|h|h
  ·exact(hP' c h).imp (λh=>.inl (.inl h)) λh=>by omega
  ·exact .inl (.inl (.inr h))
  ·exact .inl (.inr (.inl h))
  ·exact h.imp (λh=>.inr (.inr (.inl h))) λh=>by omega
  ·exact .inl (.inr (.inr (.inr h)))
end Go.Ar
namespace Go.Proofs
open Go.Vc
set_option maxRecDepth 100000
def Xi.h:Hn:=.q .o1 (.q (.q .o5 .aK) (.q (.q .o1 (.k (.loop [(5,.I)] (.q (.q .o4 (.c .l .l)) (.q (.k (.q (.oq 9) .aK)) .o3))))) .aM))
def Xi.v (a b:Sl)(c:Hp)(d:aO):Prop:=If (((a.len:Nat):Int) != ((b.len:Nat):Int)) (d false c) (Ya [bO] (λe=>e 0 c) λf (g:Int) h=>If (g<((a.len:Nat):Int)) (Ix a.a a.len g 2 λi=>aQ i 0 h λj=>aQ i 1 h λk=>Ix b.a b.len g 2 λl=>aQ l 0 h λm=>aQ l 1 h λn=>If (!((j==m)&&((k==n)&&true))) (d false h) (bM (g+1) λo=>f o h)) (d true h))
theorem Xi.o {a b c d}(e:Xi.v a b c d):Xi.c a b c d:=Wa Tryz.func54 (x:=Xi.h) (R0 e)
end Go.Proofs
namespace Go.Ar
open Go Go.Vc Go.Proofs
open Go.Vc (bU dB cT)
variable {thread:Int}{U σ0 v w w':Hp}{F P Q X T Tc:Rg}{L:dH}{H H' H1:Hw}{held:List Pc}{s0 sp:Sp}{t n:Nat}{gb km fm m pp:Nat}{x y x':Gu}{b:B5}{qb:Nat}{Qq Qr:Rg}{qs rs:Sl}{q q':Qu}
theorem QP.wu (o:QP σ0 U L H held s0 P gb km fm x qb Qq Qr qs rs q){L':dH}{held':List Pc}{s0':Sp}{P':Rg}(hp:L'.p=L.p)(e:Ext (Mg P gb km fm) U w)(p':GP σ0 w L' H' held' s0' P' gb km fm y)(hP:∀b,P' b->P b\/U.size<=b) :
 QO σ0 U w L.p gb km fm qb (lD P gb km fm qb Qq Qr) H' y q:=by
 refine⟨L',held',s0',P',Qq,Qr,qs,rs,o.eZ e p' hP,hp,e.sub λc a=>.inl a,λc a=>?_⟩;rcases a with(h|h)|h|h|h
 ·exact(hP c h).imp (λh=>.inl (.inl h)) id
 ·exact .inl (.inl (.inr h))
 ·exact .inl (.inr (.inl h))
 ·exact .inl (.inr (.inr (.inl h)))
 ·exact .inl (.inr (.inr (.inr h)))
theorem RW (o:QP σ0 U L H held s0 P gb km fm x qb Qq Qr qs rs q)(gc:Gc σ0)(x0:0<=x.no/\x.no<=100000)(thread size align:Int){R:Int->Int->Hp->Prop}
 (h0:∀w,mF size align=false->bL U w->R 0 1 w)
 (h1:∀e w H',mF size align=true->e≠0->KN H thread 0 (zA align+ZJ size+16) (zA align) 0 H' 0 e->fY H H'->H'.live=H.live->QO σ0 U w L.p gb km fm qb (lD P gb km fm qb Qq Qr) H' x q->R 0 e w)
 (h2:∀b w H1,xw H x size align b H1->KN H thread 0 (zA align+ZJ size+16) (zA align) 0 H1 b.2.2.1 0->fY H H1->QO σ0 U w L.p gb km fm qb (lD P gb km fm qb Qq Qr) {H1 with sp:=kh H1.sp b} (x.fC b) q->R b.1 0 w) :
 Wl.c (aW qb) thread size align U R:=by
 refine Wl.o ?_;unfold Wl.v;refine UW o (cE rfl (aG (o.b.rP rfl (O7 o.p gc x0 thread size align h0 (λe w ts H' a r P' u j d op y g m i=>?_) λb w ts H1 a r P' z d op g m i=>?_))))
 ·exact h1 e w H' u j d op y (o.wu (L':={L with ts:=ts}) rfl (g.sub λc s=>.inl s) m i)
 ·exact h2 b w H1 z d op (o.wu (L':={L with ts:=ts}) rfl g m i)
theorem Sj (o:QP σ0 U L H held s0 P gb km fm x qb Qq Qr qs rs q)(s:QS x q)(addr:Int)(ha:addr<=9223372036854775807){R:Int->Int->Hp->Prop}(ht:∀w,uV x q addr=true->bL U w->R 0 9 w)(h0:∀e w,uV x q addr=false->e≠0->bL U w->uP H x addr e->R 0 e w)
 (h1:∀w,uV x q addr=false->bL U w->uP H x addr 0->R (Ka H.sp addr) (eO H.sp addr) w):Wy.c (aW qb) addr U R:=by
 refine Wy.o ?_;unfold Wy.v;refine UW o (cE rfl (Rm o s.xi s.kl s.qa addr λw e=>cU (λh=>ht w h e) λh=>?_));have o1:=o.fr e;exact aG (o1.b.rP rfl (N4 o1.p s.xi addr ha (λi g d e2 a=>h0 i g h d (e.trans e2) a) λg e2 a=>h1 g h (e.trans e2) a))
theorem γ (p:GP σ0 U L H held s0 P gb km fm x)(YT bytes:Int){R:Option Addr->Int->Hp->Prop}(h0:¬(0<=YT/\YT<=64/\0<=bytes/\bytes<=16384)->R none 1 U)
 (h1:0<=YT/\YT<=64/\0<=bytes/\bytes<=16384->∀w,bL U w->QP σ0 w L H held s0 P gb km fm x U.size (λ_=>False) (λ_=>False) ⟨none,0,0⟩ ⟨none,0,0⟩ ⟨YT,bytes,[],[]⟩->R (some ⟨U.size,0,none⟩) 0 w) :
 X5.c (aW gb) YT bytes U R:=by
 refine X5.o ?_;unfold X5.v;refine y7 p (KH (λr w=>w=U/\r=decide (YT<0)) (λr w ⟨d,g⟩=>?_) λJ a=>cE rfl (a _ _ ⟨rfl,rfl⟩));rw[d,g];refine KH (λr w=>w=U/\r=decide (YT<0\/YT>64)) (λr w ⟨d,g⟩=>?_) λJ a=>cQ (λh=>a _ _ ⟨rfl,by rw[zJ (.inl h)]⟩) λh=>a _ _ ⟨rfl,by rw[kT,decide_eq_true_iff,decide_eq_true_iff];omega⟩;rw[d,g];refine KH (λr w=>w=U/\r=decide (YT<0\/YT>64\/bytes<0)) (λr w ⟨d,g⟩=>?_) λJ a=>cQ (λh=>a _ _ ⟨rfl,by rw[zJ O]⟩) λh=>a _ _ ⟨rfl,by rw[kT,decide_eq_true_iff,decide_eq_true_iff];omega⟩;rw[d,g];refine KH (λr w=>w=U/\r=decide (YT<0\/YT>64\/bytes<0\/bytes>16384)) (λr w ⟨d,g⟩=>?_) λJ a=>cQ (λh=>a _ _ ⟨rfl,by rw[zJ O]⟩) λh=>a _ _ ⟨rfl,by rw[kT,decide_eq_true_iff,decide_eq_true_iff];omega⟩;rw[d,g];refine cQ (λh=>h0 O) λh=>?_;refine nw (cs:=[.pointer (some ⟨gb,0,none⟩),.int .i64 YT,.int .i64 bytes,.slice none 0 0,.slice none 0 0]) λw m e i=>h1 O w e ?_;exact⟨p.fr e,i,⟨rfl,.inl ⟨rfl,rfl⟩⟩,⟨rfl,.inl ⟨rfl,rfl⟩⟩,⟨p.e.1,λj=>by have:=u6 p j;omega,id,id⟩,λb i=>i.elim,λb i=>i.elim,λb i=>i.elim,⟨by show 0<=YT/\YT<=64;omega,by show 0<=bytes/\bytes<=16384;omega,by simp,by simp,by simp⟩⟩
theorem SP (n:Nat):(List.replicate n [Value.int .i64 0,.int .i64 0]).flatten=gL (List.replicate n (0,0)):=by
 induction n with
 | zero=>rfl
 | succ n ih=>rw[sd,sd,vu,ih];rfl
theorem JO (o:QP σ0 U L H held s0 P gb km fm x qb Qq Qr qs rs q){R:Sl->Hp->Prop}(hR:∀s w Q,bL U w->bS s 2 (gL q.rs) w Q->(∀c,Q c->U.size<=c/\c<w.size)->R s w):Wt.c (aW qb) U R:=by
 refine Wt.o ?_;unfold Wt.v;have g:=o.rr.ky;have z:=o.i.rl;refine UW o (cE rfl (aG (o.b.rS rfl (mk aC aC λv u e m=>?_))));have o1:=o.fr e;rw[SP]at m;have a:=Ux q.rs;refine aG (o1.b.rS rfl ⟨gL q.rs,by rw[a];simp only;omega,o1.rr.rd,Jc _,?_⟩);simp only at m ⊢;refine VU m (by rw[a,Ux,List.length_replicate];omega) λp o2 j=>?_;have d:List.take (0+0) (gL (List.replicate rs.len (0,0)))++gL q.rs++List.drop (0+0+(gL q.rs).length) (gL (List.replicate rs.len (0,0)))=gL q.rs:=by
  rw[List.drop_eq_nil_of_le (by rw[a,Ux,List.length_replicate];omega)];simp
 rw[d]at j;refine hR _ p (· = U.size) (Ext.fresh e o2.ext λi (y:i=U.size)=>O) ⟨by rw[a,g],.inr ⟨U.size,_,rfl,rfl,j,zD _,by rw[a,g],l0⟩⟩ λc r=>?_;have:=j.lt;omega
theorem SU {a b:Sl}{xs ys:List P2}(ha:cV a 2 (gL xs) U F)(hb:cV b 2 (gL ys) U Q)(hl:xs.length<=1000000){R:aO}(hR:xs=ys->R true U)(he:xs=ys):Xi.c a b U R:=by
 subst he;refine Xi.o ?_;unfold Xi.v;have d:a.len=xs.length:=by have:=ha.1;rw[Ux]at this;omega
 have p:b.len=xs.length:=by have:=hb.1;rw[Ux]at this;omega
 rw[d,p];refine cE aA (Qg (a:=bO) (λ(i:Int) w=>w=U/\∃k:Nat,i=k/\k<=xs.length) (λi _=>xs.length-i.toNat) ⟨rfl,0,rfl,O⟩ ?_);rintro(i:Int) w ⟨rfl,k,rfl,hk⟩;refine cQ (λs=>?_) λu=>hR rfl;have e:xs[k]?=some (xs[k]' O):=cX _;generalize (xs[k]' O)=r at e;rw[←d];refine sY ha e λy o1 j=>eY (j 0 _ rfl) (eY (j 1 _ rfl) ?_);rw[d,←p];refine sY hb e λx o2 g=>eY (g 0 _ rfl) (eY (g 1 _ rfl) ?_);exact cE aA (cS (m:=k+1) O O ⟨⟨rfl,k+1,rfl,O⟩,O⟩)
end Go.Ar
namespace Go.Proofs
open Go.Vc
set_option maxRecDepth 100000
def XK.h:Hn:=.q .o1 (.q .o2 (.q (.q .o2 .aK) (.q .o7 (.q .o7 (.q (.q (.cW (.seq [.op,.op,.op,.cR false 2 [.op,.op]])) .aK) (.q .o7 (.q .o7 (.q .o7 (.q (.q (.cW (.seq [.op,.op,.op,.op,.op,.cR false 4 (RI.ops 4),.op,.cR false 7 (RI.ops 7),.op,.cR false 3 (RI.ops 3),.op,.cR false 4 (RI.ops 4)])) .aK) (.q .o8 (.q (.q (.cW (.seq [.op,.op,.op,.cR false 4 (RI.ops 4),.op,.cR false 7 (RI.ops 7),.op,.cR false 4 (RI.ops 4)])) .aK) (.q .o7 (.q (.cW (.seq [.op,.op,.op,.cR true 2 [.op,.op],.op,.cR true 7 (RI.ops 7),.op])) .l)))))))))))))
def XK.v (a:Hp)(b:aO):Prop:=Xw.c a λc d=>If c.isNone (b false d) (QY.c c d λe f g=>X5.c e 2 1000 g λh i j=>bV (λk l=>If k (b false l) (Wl.c h 0 24 8 l λm n o=>Wl.c h 0 24 8 o λp q r=>Wl.c h 0 24 8 r λs t u=>Wj.c h 0 m u λv w=>bV (λx y=>bV (λz aa=>bV (λab ac=>bV (λad ae=>If ad (b false ae) (Wy.c h m ae λaf ag ah=>bV (λai aj=>bV (λak al=>bV (λam an=>If am (b false an) (WB.c h 0 an λao ap aq=>bV (λar au=>bV (λav aw=>b av aw) λax=>If ar (Wt.c h au λay az=>aV #[.I p,.I p] 62 az λa0 a1=>Xi.c ay ⟨some a0,1,1⟩ a1 λa2 a3=>ax a2 a3) (ax false au)) λa4=>If (ao==2) (a4 (ap==0) aq) (a4 false aq))) λa5=>If ak (a5 true al) (XH.c c p 3 al λa6 a7=>a5 (a6 != 0) a7)) λa8=>If ai (a8 true aj) (Wx.c h aj λa9 ba=>aV #[.I p,.I s] 3 ba λbb bc=>XG.c a9 ⟨some bb,2,2⟩ bc λbd be=>a8 (!bd) be)) λbf=>If (ag != 9) (bf true ah) (Wj.c h 0 s ah λbg bh=>bf (bg != 0) bh))) λbi=>If ab (bi true ac) (Wj.c h 0 m ac λbj bk=>bi (bj != 9) bk)) λbl=>If z (bl true aa) (Wq.c h aa λbm bn=>bl (bm != 48) bn)) λbo=>If x (bo true y) (Wx.c h y λbp bq=>aV #[.I m,.I p] 3 bq λbr bs=>XG.c bp ⟨some br,2,2⟩ bs λbt bu=>bo (!bt) bu)) λbv=>If (v != 0) (bv true w) (Wj.c h 0 p w λbw bx=>bv (bw != 0) bx))) λbz=>If (i != 0) (bz true j) (bz h.isNone j))
theorem XK.o {a b}(c:XK.v a b):XK.c a b:=Wa Tryz.func15 (x:=XK.h) (R0 c)
end Go.Proofs
namespace Go.Ar
open Go Go.Vc Go.Proofs
open Go.Vc (bU dB cT)
variable {thread:Int}{U σ0 v w w':Hp}{F P Q X T Tc:Rg}{L:dH}{H H' H1:Hw}{held:List Pc}{s0 sp:Sp}{t n:Nat}{gb km fm m pp:Nat}{x y x':Gu}{b:B5}{qb:Nat}{Qq Qr:Rg}{qs rs:Sl}{q q':Qu}
theorem gS.sM {e:P2}{r:List P2}{H2:Hw}{e2:Int}(hq:q.q=e::r)(hm:bU x.kn e.1=some b)(hck:ly H x e.1=0)(hfr:mf H x thread e.1 false=0)(hw:KN (eX H b) thread 1 0 0 b.2.2.1 H2 0 e2)(h:gS thread H x q H' x' q') :
 H'=H2/\x'=x.gone e.1/\q'=⟨q.bl,q.by',r,if KO H b=[]then q.rs else q.rs++[(e.1,mr (KO H b))]⟩:=by
 cases h with
 | none h1 h2=>
  rw[hq]at h1;cases h1;rcases h2 with h2|h2
  ·rw[hm]at h2;cases h2
  ·exact absurd hck h2
 | stay h1 h2 h3 h4=>
  rw[hq]at h1;cases h1;exact absurd hfr h4
 | free h1 h2 h3 h4 hw'=>
  rw[hq]at h1;cases h1;rw[hm]at h2;cases h2;exact⟨(hw'.wo hw).1,rfl,rfl⟩
theorem jA.lE (h:jA thread H x q H' x' q')(ho:pT q=false):H'=H/\x'=x/\q'=q:=by
 cases h with
 | stop _=>exact⟨rfl,rfl,rfl⟩
 | next h _ _=>rw[ho]at h;cases h
theorem jA.m8 (h:jA thread H x q H' x' q')(ho:pT q=true):∃H1 x1 q1,gS thread H x q H1 x1 q1/\jA thread H1 x1 q1 H' x' q':=by
 cases h with
 | stop h=>rw[ho]at h;cases h
 | next _ h1 h2=>exact⟨_,_,_,h1,h2⟩
theorem jO.lE (h:jO thread H x q H' x' q')(ho:q.q=[]):H'=H/\x'=x/\q'=q:=by
 cases h with
 | stop _=>exact⟨rfl,rfl,rfl⟩
 | next h _=>obtain⟨_,_,_,_,e,a⟩:=h.len;rw[ho]at a;cases a
theorem jO.m8 (h:jO thread H x q H' x' q')(ho:q.q≠[]):∃H1 x1 q1,gS thread H x q H1 x1 q1/\jO thread H1 x1 q1 H' x' q':=by
 cases h with
 | stop h=>exact absurd h ho
 | next h1 h2=>exact⟨_,_,_,h1,h2⟩
theorem HD {H:Hw}{th kind size align addr:Int}{k:Hw×Int×Int}{r:Int×Int}(hk:k=(Uw H th kind size align addr).getD (w0,0,99))(h2:k.2=r)(hr:r≠(0,99)):KN H th kind size align addr k.1 r.1 r.2:=by
 subst hk;cases hw:Uw H th kind size align addr with
 | none=>rw[hw]at h2;exact absurd h2.symm hr
 | some s=>
  rw[hw]at h2;have:=FO hw;have e1:s.2=r:=h2;rw[←e1];exact this
def bB:B5:=(4176,24,4160,64,2)
def cB:B5:=(4240,24,4224,64,3)
def k2:Hw×Int×Int:=(Uw uF 0 0 56 16 0).getD (w0,0,99)
def wD:Hw:={k2.1 with sp:=kh k2.1.sp bB}
def k3:Hw×Int×Int:=(Uw wD 0 0 56 16 0).getD (w0,0,99)
def tE:Hw:={k3.1 with sp:=kh k3.1.sp cB}
def OL:Gu:=gX.fC bB
def kX:Gu:=OL.fC cB
def tA:Hw:=eX tE gB
def rH:Hw:=eX tA bB
def rF:Hw:=eX rH cB
def k4:Hw×Int×Int:=(Uw (eX rF gB) 0 1 0 0 4096).getD (w0,0,99)
def qN:Hw:={k4.1 with sp:=ZM k4.1.sp 4176 3}
def k6:Hw×Int×Int:=(Uw (eX qN bB) 0 1 0 0 4160).getD (w0,0,99)
def k7:Hw×Int×Int:=(Uw (eX k6.1 cB) 0 1 0 0 4224).getD (w0,0,99)
theorem vK:k2.2=(4160,0)/\Kf k2.1 4160=some 64:=by decide +kernel
theorem vQ:k3.2=(4224,0)/\Kf k3.1 4224=some 64:=by decide +kernel
abbrev q0:Qu:=⟨2,1000,[],[]⟩
abbrev q1:Qu:=⟨2,1000,[(4112,24)],[]⟩
abbrev q2:Qu:=⟨2,1000,[(4112,24),(4176,24)],[]⟩
abbrev q3:Qu:=⟨2,1000,[(4112,24),(4176,24),(4240,24)],[]⟩
abbrev q4:Qu:=⟨2,1000,[(4176,24),(4240,24)],[]⟩
theorem A8:r8 tE kX q0 0 4112=0:=by decide +kernel
theorem C6:r8 tA kX q1 0 4176=0:=by decide +kernel
theorem og:r8 rH kX q2 0 4112=9/\r8 rH kX q2 0 4240=0/\uV kX q2 4112=true:=by decide +kernel
theorem ot:ly rF kX 4112=0/\mf rF kX 0 4112 false=0/\KO rF gB=[]/\k4.2=(0,0):=by decide +kernel
abbrev uX:Gu:=kX.gone 4112
theorem Cz:eO k4.1.sp 4176=0:=by decide +kernel
theorem pF:QU qN 0=0/\ly qN uX 4176=0/\mf qN uX 0 4176 false=0/\KO qN bB=[4176]/\k6.2=(0,0):=by decide +kernel
abbrev Ca:Gu:=uX.gone 4176
theorem qH:ly k6.1 Ca 4240=0/\mf k6.1 Ca 0 4240 false=0/\KO k6.1 cB=[]/\k7.2=(0,0):=by decide +kernel
theorem A9:kX.kn=[(4112,gB),(4176,bB),(4240,cB)]:=by decide +kernel
theorem wE:∀e∈kX.kn,e.1=e.2.1/\ie e.2:=λe a=>by
 rw[A9]at a;simp only[zX,yk,or_false]at a;rcases a with rfl|rfl|rfl<;>exact⟨rfl,⟨by decide,by decide⟩,⟨by decide,by decide⟩,⟨by decide,by decide,by decide⟩,⟨by decide,by decide⟩,by decide⟩
theorem pf {q:Qu}(h1:∀e∈q.q,0<=e.1/\e.1<=5000)(h2:q.rs.length+q.q.length<=9000):QS kX q:=⟨wE,by rw[A9];decide,λe a=>by have:=h1 e a;exact⟨O,O⟩,h2⟩
theorem LL {q:Qu}(h1:∀e∈q.q,0<=e.1/\e.1<=5000)(h2:q.rs.length+q.q.length<=9000):QS uX q:=⟨λe a=>wE e (zI.1 (show e∈cT kX.kn 4112 from a)).1,j9 (pd _ _) (by rw[A9];decide),λe a=>by have:=h1 e a;exact⟨O,O⟩,h2⟩
theorem ri:bU kX.kn 4112=some gB/\bU kX.kn 4176=some bB/\bU kX.kn 4240=some cB:=by decide +kernel
theorem O8:bU uX.kn 4176=some bB:=by decide +kernel
theorem Ry:bU Ca.kn 4240=some cB:=by decide +kernel
attribute [local irreducible] w0 gm uF k2 wD k3 tE tA rH rF k4 qN k6 k7
theorem O3:uF = {gm.1 with sp:=kh gm.1.sp gB}:=by unfold uF;rfl
theorem TN:wD = {k2.1 with sp:=kh k2.1.sp bB}:=by unfold wD;rfl
theorem Rs:tE = {k3.1 with sp:=kh k3.1.sp cB}:=by unfold tE;rfl
theorem Tm:tA=eX tE gB:=by unfold tA;rfl
theorem Ma:rH=eX tA bB:=by unfold rH;rfl
theorem π:rF=eX rH cB:=by unfold rF;rfl
theorem Ss:qN = {k4.1 with sp:=ZM k4.1.sp 4176 3}:=by unfold qN;rfl
theorem Ba:KN uF 0 0 56 16 0 k2.1 4160 0:=HD (by unfold k2;rfl) vK.1 aB
theorem BU:KN wD 0 0 56 16 0 k3.1 4224 0:=HD (by unfold k3;rfl) vQ.1 aB
theorem BG:KN (eX rF gB) 0 1 0 0 4096 k4.1 0 0:=HD (by unfold k4;rfl) ot.2.2.2 aB
theorem Cq:KN (eX qN bB) 0 1 0 0 4160 k6.1 0 0:=HD (by unfold k6;rfl) pF.2.2.2.2 aB
theorem Dt:KN (eX k6.1 cB) 0 1 0 0 4224 k7.1 0 0:=HD (by unfold k7;rfl) qH.2.2.2 aB
theorem qM (o:QP σ0 U L H held s0 P gb km fm x qb Qq Qr qs rs q)(gc:Gc σ0)(hno:0<=x.no/\x.no<=100000){b:B5}{H1:Hw}(hw:KN H 0 0 56 16 0 H1 b.2.2.1 0)(hu:Kf H1 b.2.2.1=some b.2.2.2.1)(hb:b.1=b.2.2.1+16/\b.2.1=24/\b.2.2.2.2=x.no+1){R:Int->Int->Hp->Prop}
 (hR:∀w,QO σ0 U w L.p gb km fm qb (lD P gb km fm qb Qq Qr) {H1 with sp:=kh H1.sp b} (x.fC b) q->R b.1 0 w):Wl.c (aW qb) 0 24 8 U R:=by
 refine RW o gc hno 0 24 8 (λw A=>absurd A aB) (λe w H' _ m d=>?_) λc w H2 j d op z=>?_
 ·exact absurd (d.wo hw).2.2 m
 ·obtain⟨rfl,g,_⟩:=d.wo hw;have y:c=b:=by
   have i:=j.u;rw[g,hu]at i;have r:=j.a;rw[g]at r;exact Prod.ext (r.trans hb.1.symm) (Prod.ext (j.s.trans hb.2.1.symm) (Prod.ext g (Prod.ext (Option.some.inj i).symm (j.n.trans hb.2.2.symm))))
  subst y;exact hR w z
set_option maxRecDepth 16000 in
theorem JN (gl:Gl U)(gc:Gc U){R:aO}(hR:∀σ',bL U σ'->R true σ'):XK.c U R:=by
 refine XK.o ?_;unfold XK.v;refine FH gl gc.gd λv L N e hsN hNv h0=>cE rfl ?_;have hn:=F2;have hc0:w0.cf.aF=64:=by have:=hn.pg;omega
 refine Ie e h0.cut hn.hi hn.cf O (λb hb=>⟨by have:N<=b:=hb.1;omega,hb.2⟩) (AE gl gc.gd) λw gb Y Z e1 _ p=>?_;refine γ p 2 1000 (λh=>absurd h aB) λ_ w1 e2 o=>?_;generalize w.size=qb at o;refine bV.intro (cE rfl (cE rfl ?_));refine qM (b:=gB) o gc ⟨by decide,by decide⟩ Dl Ci ⟨by decide,by decide,by decide⟩ λw2 a=>?_;obtain⟨L1,held1,s1,P1,Qq1,Qr1,qs1,rs1,o1,hp1, -, -⟩:=a;rw[←O3]at o1;refine qM (b:=bB) o1 gc ⟨by decide,by decide⟩ Ba vK.2 ⟨by decide,by decide,by decide⟩ λw3 a=>?_;obtain⟨L2,held2,s2,P2,Qq2,Qr2,qs2,rs2,o2,j7, -, -⟩:=a;rw[←TN]at o2;refine qM (b:=cB) o2 gc ⟨by decide,by decide⟩ BU vQ.2 ⟨by decide,by decide,by decide⟩ λw4 a=>?_;obtain⟨L3,y,s3,P3,Qq3,Qr3,qs3,rs3,o3,hp3, -, -⟩:=a;rw[←Rs]at o3;have o3:QP U w4 L3 tE y s3 P3 gb Y Z kX qb Qq3 Qr3 qs3 rs3 q0:=o3;show Wj.c (aW qb) 0 4112 w4 _;refine G7 o3 gc (pf (λe he=>by simp at he) aB) aB aB 0 ⟨by decide,by decide⟩ (λw h=>absurd A8 h) λw5 b H1 x1 u d _ m a=>?_;rw[ri.1]at d;cases d;obtain⟨rfl,rfl,rfl⟩:=m.lE aB;obtain⟨L5,x,s5,P5,Qq5,Qr5,qs5,rs5,o5,hp5, -, -⟩:=a;rw[←Tm]at o5;have o5:QP U w5 L5 tA x s5 P5 gb Y Z kX qb Qq5 Qr5 qs5 rs5 q1:=o5;refine bV.intro (cE rfl ?_);show Wj.c (aW qb) 0 4176 w5 _;refine G7 o5 gc (pf aB aB) aB aB 0 ⟨by decide,by decide⟩ (λw h=>absurd C6 h) λw6 b H1 x1 u d _ m a=>?_;rw[ri.2.1]at d;cases d;obtain⟨rfl,rfl,rfl⟩:=m.lE aB;obtain⟨L6,r,s6,P6,Qq6,Qr6,qs6,rs6,o6,hp6, -, -⟩:=a;rw[←Ma]at o6;have o6:QP U w6 L6 rH r s6 P6 gb Y Z kX qb Qq6 Qr6 qs6 rs6 q2:=o6;refine bV.intro (cE rfl ?_);refine EY o6 λsl w7 Q7 e7 hs7 hQ7=>?_;have o7:=o6.fr e7;refine nw (cs:=[.int .i64 4112,.int .i64 4176]) λw8 hz8 e8 b8=>?_;have o8:=o7.fr e8;have hs8:=aI.bP hs7 e8;have ht8:cV ⟨some ⟨w7.size,0,none⟩,2,2⟩ 1 (WD [4112,4176]) w8 (· = w7.size):=b8.fX rfl rfl λj hj=>by rw[zH];rfl
 refine Fm (bS.fX hs8) ht8 aB ?_;refine bV.intro (cE aB ?_);refine DQ o8 λw9 e9=>?_;have o9:=o8.fr e9;refine bV.intro (cE aB ?_);show Wj.c (aW qb) 0 4112 w9 _;refine G7 o9 gc (pf aB aB) aB aB 0 ⟨by decide,by decide⟩ (λw10 _ e10=>?_) λw b H1 x1 u d h=>by rw[og.1]at h;exact absurd h aB
 rw[og.1];have fZ:=o9.fr e10;refine cE aB ?_;show Wy.c (aW qb) 4112 w10 _;refine Sj fZ (pf aB aB) 4112 aB (λw11 _ e11=>?_) (λe w h=>by rw[og.2.2]at h;cases h) λw h=>by rw[og.2.2]at h;cases h
 have o11:=fZ.fr e11;refine bV.intro (cE aB ?_);show Wj.c (aW qb) 0 4240 w11 _;refine G7 o11 gc (pf aB aB) aB aB 0 ⟨by decide,by decide⟩ (λw h=>absurd og.2.1 h) λw12 b H1 x1 u d _ m a=>?_;rw[ri.2.2]at d;cases d;rw[←π]at m;obtain⟨H2,x2,q2',fr,m⟩:=m.m8 aB;obtain⟨rfl,rfl,rfl⟩:=fr.sM (b:=gB) rfl ri.1 ot.1 ot.2.1 BG;obtain⟨rfl,rfl,rfl⟩:=m.lE (by rw[zC ot.2.2.1];decide);rw[zC ot.2.2.1]at a;obtain⟨L12,g,s12,P12,Qq12,Qr12,z,V,i,G, -, -⟩:=a;have i:QP U w12 L12 k4.1 g s12 P12 gb Y Z uX qb Qq12 Qr12 z V q4:=i;refine bV.intro (cE rfl ?_);refine EY i λsl E Q13 e13 J hQ13=>?_;have o13:=i.fr e13;refine nw (cs:=[.int .i64 4176,.int .i64 4240]) λw14 hz14 B b14=>?_;have S:=o13.fr B;have M:=aI.bP J B;have A:cV ⟨some ⟨E.size,0,none⟩,2,2⟩ 1 (WD [4176,4240]) w14 (· = E.size):=b14.fX rfl rfl λj hj=>by rw[zH];rfl
 refine Fm (bS.fX M) A aB ?_;refine bV.intro (cE aB ?_);have hp:L.p=L12.p:=by rw[G,hp6,hp5,hp3,j7,hp1]
 rw[hp];refine S.p.write gc 4176 3 aB λw15 s15 P15 e15 p15 K=>?_;have F:=S.eZ (e15.sub λc hc=>.inl hc) p15 K;rw[Cz];rw[←Ss]at F;refine cE aB ?_;refine Ro F gc (LL aB aB) 0 (λw h=>absurd pF.1 h) λw16 H3 x3 q3' _ s a=>?_;obtain⟨H4,x4,q4',fr,s⟩:=s.m8 aA;obtain⟨rfl,rfl,rfl⟩:=fr.sM (b:=bB) rfl O8 pF.2.1 pF.2.2.1 Cq;rw[pF.2.2.2.1]at s;obtain⟨H5,x5,q5',fr,s⟩:=s.m8 aA;obtain⟨rfl,rfl,rfl⟩:=fr.sM (b:=cB) rfl Ry qH.1 qH.2.1 Dt;rw[zC qH.2.2.1]at s;obtain⟨rfl,rfl,rfl⟩:=s.lE rfl;obtain⟨L16,held16,OD,P16,Qq16,Qr16,qs16,rs16,H,hp16, -, -⟩:=a;refine bV.intro (cD aB (bV.intro (cD rfl ?_)));refine JO H λsl Q Q17 e17 D hQ17=>?_;have o17:=H.fr e17;refine nw (cs:=[.int .i64 4176,.int .i64 4176]) λP hz18 C b18=>?_;have o18:=o17.fr C;have W:=aI.bP D C;have X:cV ⟨some ⟨Q.size,0,none⟩,1,1⟩ 2 (gL [(4176,4176)]) P (· = Q.size):=b18.fX rfl rfl λj hj=>by rw[zH];rfl
 refine SU (bS.fX W) X aB (λ_=>?_) rfl;exact hR P o18.p.e
end Go.Ar
namespace Go.Proofs
open Go.Vc
set_option maxRecDepth 100000
def WS.h:Hn:=.q .o1 (.q .o3 (.q .o3 (.kj [(9,.one .p),(10,.one .p)] (.q .o1 (.c .o2 .l)) (.q .o7 (.q .fZ (.q .o8 (.q .o8 (.q .o7 (.q (.cW (.seq [.op,.op,.op,.cR true 2 [.op,.op],.op,.cR true 2 [.op,.op],.op,.cR true 2 [.op,.op],.op,.cR true 5 (RI.ops 5),.op,.cR true 2 [.op,.op],.op,.cR true 2 [.op,.op],.op,.cR true 5 (RI.ops 5),.op,.cR true 2 [.op,.op],.op,.cR true 2 [.op,.op],.op,.cR true 4 (RI.ops 4),.op,.cR true 3 (RI.ops 3),.op,.cR true 4 (RI.ops 4),.op,.cR true 3 (RI.ops 3),.op,.cR true 3 (RI.ops 3),.op,.cR true 4 (RI.ops 4),.op,.cR true 1 [.op],.op])) .l)))))))))
def WS.v (a b c:Int)(d:Bool)(e:Hp)(f:aO):Prop:=aV #[.pointer none,.I 0,.I 0,.slice none 0 0,.slice none 0 0] 71 e λg h=>aV #[.pointer none,.map none,.map none,.I 0] 75 h λi j=>Jn [.p,.p] (λ(k:R2) (l:R2) m=>X5.c l 1 1 m λn o p=>Wl.c k a b c p λq r s=>Wy.c k b s λt u v=>WB.c k a v λw x y=>Xw.c y λz aa=>QY.c z aa λab ac ad=>bV (λae af=>bV (λag ah=>bV (λai aj=>bV (λak al=>bV (λam an=>bV (λao ap=>bV (λaq ar=>bV (λau av=>bV (λaw ax=>bV (λay az=>bV (λa0 a1=>bV (λa2 a3=>bV (λa4 a5=>bV (λa6 a7=>bV (λa8 a9=>bV (λba bb=>f ba bb) λbc=>If a8 (XK.c a9 λbd be=>bc bd be) (bc false a9)) λbf=>If a6 (W6.c k ab a7 λbg bh=>bf bg.isNone bh) (bf false a7)) λbi=>If a4 (WX.c k a5 λbj bk=>bi bj.isNone bk) (bi false a5)) λbl=>If a2 (WY.c k a3 λbm bn=>bl bm.isNone bn) (bl false a3)) λbo=>If a0 (Wt.c k a1 λbp bq=>bo (((bp.len:Nat):Int)==0) bq) (bo false a1)) λbr=>If ay (Wq.c k az λbs bt=>br (bs==0) bt) (br false az)) λbu=>If aw (Wx.c k ax λbv bw=>bu (((bv.len:Nat):Int)==0) bw) (bu false ax)) λbx=>If au (bx (x==5) av) (bx false av)) λbz=>If aq (bz (w==0) ar) (bz false ar)) λb0=>If ao (WZ.c k b c ap λb1 b2=>b0 (b1==5) b2) (b0 false ap)) λb3=>If am (b3 (u==5) an) (b3 false an)) λb4=>If ak (b4 (t==0) al) (b4 false al)) λb5=>If ai (Wj.c k a b aj λb6 b7=>b5 (b6==5) b7) (b5 false aj)) λb8=>If ag (b8 (r==5) ah) (b8 false ah)) λb9=>If ae (b9 (q==0) af) (b9 false af)) λca=>
 If n.isNone (ca (o==1) ad) (ca false ad)) λcb=>If d (cb none none j) (cb (some g) (some i) j)
theorem WS.o {a b c d e f}(g:WS.v a b c d e f):WS.c a b c d e f:=Wa Tryz.func9 (x:=WS.h) (R0 g)
end Go.Proofs
namespace Go.Ar
open Go Go.Vc Go.Proofs
variable {U v w w':Hp}{m vh:Option Addr}
def EC:List Value:=[.pointer none,.map none,.map none,.int .i64 0]
def tQ (m:Option Addr)(U:Hp):Prop:=m=none\/∃n,m=some ⟨n,0,none⟩/\bZ U n EC
theorem tQ.bP (h:tQ m U)(e:bL U w):tQ m w:=h.imp id λ⟨n,a,b⟩=>⟨n,a,e.bW b id⟩
theorem Mb (h:tQ m U){R:aO}(hR:R false U):WT.c m U R:=by
 refine WT.o ?_;unfold WT.v;rcases h with rfl|⟨n,rfl,hb⟩
 ·exact bV.intro (cE rfl hR)
 ·exact bV.intro (cD rfl (aG (hb.rP rfl hR)))
theorem Cv {K:eL [.p,.p]}{body:eL [.p,.p]->Prop}(P:Option Addr->Option Addr->Hp->Prop)(h1:∀r s w,P r s w->K r s w)(h2:∀J:eL [.p,.p],(∀r s w,P r s w->J r s w)->body J):Jn [.p,.p] K body:=Jn.intro (h2 K h1)
def Fl:List Value:=[.pointer none,.int .i64 0,.int .i64 0,.slice none 0 0,.slice none 0 0]
def qh (m:Option Addr)(U:Hp):Prop:=m=none\/∃n,m=some ⟨n,0,none⟩/\bZ U n Fl
theorem qh.bP (h:qh m U)(e:bL U w):qh m w:=h.imp id λ⟨n,a,b⟩=>⟨n,a,e.bW b id⟩
theorem Km (h:qh m U){R:aO}(hR:R false U):Wf.c m U R:=by
 refine Wf.o ?_;unfold Wf.v;rcases h with rfl|⟨n,rfl,hb⟩
 ·exact bV.intro (cE rfl hR)
 ·exact bV.intro (cD rfl (aG (hb.rP rfl hR)))
theorem Ja (h:qh m U)(thread:Int){R:aN}(hR:R 5 U):Wv.c m thread U R:=by
 refine Wv.o ?_;unfold Wv.v;exact Km h (cD rfl hR)
theorem Mr (h:tQ m U){R:Option Addr->Hp->Prop}(hR:R none U):W4.c m U R:=by
 refine W4.o ?_;unfold W4.v;exact Mb h (cD rfl hR)
theorem Pk (h:tQ m U)(YT bytes:Int){R:Option Addr->Int->Hp->Prop}(hR:R none 1 U):X5.c m YT bytes U R:=by
 refine X5.o ?_;unfold X5.v;exact Mr h (bV.intro (cD rfl (bV.intro (cD rfl (bV.intro (cD rfl (bV.intro (cD rfl (cD rfl hR)))))))))
set_option maxRecDepth 16000 in
theorem δ (gl:Gl U)(gc:Gc U)(thread a b:Int)(nn:Bool){R:aO}(hR:∀σ',bL U σ'->R true σ'):WS.c thread a b nn U R:=by
 refine WS.o ?_;unfold WS.v;refine nw (cs:=Fl) λv Q e j=>nw (cs:=EC) λM B e1 r=>?_;have s:=e1.bW j id;refine Cv (λm z w=>qh m w/\tQ z w/\bL U w) (λm z w ⟨i,F,g⟩=>?_) λJ y=>cU (λ_=>y _ _ _ ⟨.inl rfl,.inl rfl,e.trans e1⟩) λ_=>y _ _ _ ⟨.inr ⟨_,rfl,s⟩,.inr ⟨_,rfl,r⟩,e.trans e1⟩;refine Pk F 1 1 (Wl.o ?_);unfold Wl.v;refine Km i (cD rfl (Wy.o ?_));unfold Wy.v;refine Km i (cD rfl (WB.o ?_));unfold WB.v;refine Ja i thread (cD rfl ?_);refine FH (gl.bP g) (gc.bP g).gd λu L N E A C D=>?_;have x:=F2;have G:w0.cf.aF=64:=by have:=x.pg;omega
 refine Ie E D.cut x.hi x.cf O (λb j=>⟨by have:N<=b:=j.1;omega,j.2⟩) (AE (gl.bP g) (gc.bP g).gd) λP K S V H _ p=>?_;have E2:=g.trans p.e;have d:=i.bP p.e;refine bV.intro (cD rfl (bV.intro (cD rfl (bV.intro (cD rfl (bV.intro (cD rfl (Wj.o ?_))))))));unfold Wj.v;refine Ja d thread (cD rfl ?_);refine bV.intro (cD rfl (bV.intro (cD rfl (bV.intro (cD rfl (WZ.o ?_))))));unfold WZ.v;refine Km d (cD rfl ?_);refine bV.intro (cD rfl (bV.intro (cD rfl (bV.intro (cD rfl (Wx.o ?_))))));unfold Wx.v;refine Km d (cD rfl (bV.intro (cD rfl (Wq.o ?_))));unfold Wq.v;refine Km d (cD rfl (bV.intro (cD rfl (Wt.o ?_))));unfold Wt.v;refine Km d (cD rfl (bV.intro (cD rfl (WY.o ?_))));unfold WY.v;refine Km d (cD rfl (bV.intro (cD rfl (WX.o ?_))));unfold WX.v;refine Km d (cD rfl (bV.intro (cD rfl (W6.o ?_))));unfold W6.v;refine Km d (bV.intro (cD rfl (cD rfl (bV.intro (cD rfl ?_)))));exact JN (gl.bP E2) (gc.bP E2) λq eq=>hR q (E2.trans eq)
end Go.Ar
namespace Go.Ar
open Go Go.Vc Go.Proofs Go.ChangeShapes Go.WideShapes Go.RowKit Go.Deep
theorem GH {H:Type}{enc:TypeId×Value->H}{P:Program}{w:World}{base:Nat}{sp:Nat->Bool}{held:Bool}{fuel:Nat}{t:TypeId}{c:Value}{y:DataW H×List MemPlace}
 (ht:P.underlying t=some .bool) (h:DataW.trod enc P w base sp held fuel t [c]=some y):∃n,c=.bool n/\y=(.lit (.bool n),[]):=by
 cases fuel with
 | zero=>simp[DataW.trod]at h
 | succ fuel=>
  cases c<;>simp[DataW.trod,ht]at h
  rename_i n;exact⟨n,rfl,by simpa using h.symm⟩
theorem Be {P:Program}{w:World}{t:TypeId}{f0 f1:Field}{cs:Array Value}{fuel:Nat}{p:List MemPlace}{x y:Bool}(ht:P.underlying t=some (.struct #[f0,f1]))(hone:oneCellFields P #[f0,f1]=true)(hC:P.cellsOf t=2)
 (h0:P.underlying f0.type=some .bool) (h1:P.underlying f1.type=some .bool) (h:DataW.trod (λ_=>()) P w 0 (λ_=>true) false fuel t cs.toList=some (.agg [.lit (.bool x),.lit (.bool y)],p)):cs = #[.bool x,.bool y]:=by
 obtain⟨m,n,u,g,a,d,b⟩:=DataW.trod_struct ht h;obtain⟨l⟩:=cs;have e:l.length=2:=by rw[←hC];simpa using a
 match l,e with
 | [c0,c1],_=>
  have i:=b 0 f0 rfl;have j:=b 1 f1 rfl;obtain⟨s,q0⟩:=hone_of hone 0 f0 rfl;obtain⟨o1,q1⟩:=hone_of hone 1 f1 rfl;rw[s,q0]at i;rw[o1,q1]at j
  match m,d with
  | [y0,y1],_=>
   obtain⟨z,rfl,r⟩:=GH h0 (c:=c0) (y:=y0) (by simpa using i);obtain⟨A,rfl,e1⟩:=GH h1 (c:=c1) (y:=y1) (by simpa using j);subst r;subst e1;simp at g;obtain⟨⟨rfl,rfl⟩,_⟩:=g;rfl
theorem Gb {w:World}{a:Addr}{v:Value}(h:w.cell? a=some v):cell w.heap a=some v:=h
section
variable {H:Type}{enc:TypeId×Value->H}{P:Program}{w:World}
end
end Go.Ar