/- Texts joined. -/
import Derived.Test.YtoeidadjhkkioaaGreatDoorRows
import Derived.ChangeVars
import Derived.JoinedOf
import Derived.RowKit
import Derived.WalkKit
import Derived.ProofKit
import Derived.OpenShut
import Derived.ChangeOld
import Derived.Carry
import Derived.Test.YtoeidadjhkkioaaGreatDoorO7
set_option linter.unusedVariables false
set_option linter.unusedSimpArgs false
namespace Go.Ar
open Go Go.Vc Go.Proofs
open Go.Vc (bU dA cO)
variable {thread:Int}{U σ0 v w w':Hp}{F P Q X T Tc:Rg}{L:dE}{H H' H1:Hw}{held:List Pc}{s0 sp:Sp}{t n:Nat}{gb km fm m pp:Nat}{x y x':Gu}{b:B5}{qb:Nat}{Qq Qr:Rg}{qs rs:Sl}{q q':Qu}
def QO (σ0 U w:Hp)(pp gb km fm qb:Nat)(Tc:Rg)(H':Hw)(x':Gu)(q':Qu):Prop:=
 ∃L' held' s0' P' Qq' Qr' qs' rs',QP σ0 w L' H' held' s0' P' gb km fm x' qb Qq' Qr' qs' rs' q'/\L'.p=pp/\Ext Tc U w/\∀c,ku P' gb km fm qb Qq' Qr' c->Tc c\/U.size<=c
theorem QO.fr (o:QO σ0 U w pp gb km fm qb Tc H x q)(e:aG w w'):QO σ0 U w' pp gb km fm qb Tc H x q:=by
 obtain⟨L',a,d,P',Qq',Qr',g,b,h,i,m,j⟩:=o;exact⟨L',a,d,P',Qq',Qr',g,b,h.fr e,i,m.gp e,j⟩
theorem QP.qo (o:QP σ0 U L H held s0 P gb km fm x qb Qq Qr qs rs q)(e:aG U w):QO σ0 U w L.p gb km fm qb (ku P gb km fm qb Qq Qr) H x q:=
 ⟨L,held,s0,P,Qq,Qr,qs,rs,o.fr e,rfl,aG.to e,λc a=>.inl a⟩
theorem QO.then (e:Ext Tc U v)(hc:∀c,T c->Tc c\/U.size<=c)(o:QO σ0 v w pp gb km fm qb T H x q):QO σ0 U w pp gb km fm qb Tc H x q:=by
 obtain⟨L',a,d,P',Qq',Qr',i,b,h,j,m,g⟩:=o;have p:=e.1;exact⟨L',a,d,P',Qq',Qr',i,b,h,j,Ext.dW e m λc h=>hc c h,λc h=>(g c h).elim (hc c) λh=>.inr O⟩
theorem gG.bT (r:gG thread H x q H' x' q'):QW H' H:=by
 cases r with
 | none h1 h2=>exact QW.refl _
 | stay h1 h2 h3 h4=>exact QW.refl _
 | free h1 h2 h3 h4 hw op fe=>exact op.kp
theorem gG.len (r:gG thread H x q H' x' q'):q'.q.length+1=q.q.length/\q'.bl=q.bl/\q'.by'=q.by'/\q'.rs.length<=q.rs.length+1/\∃e,q.q=e::q'.q:=by
 cases r with
 | none h1 h2=>rw[h1];exact⟨rfl,rfl,rfl,Nat.le_succ _,_,rfl⟩
 | stay h1 h2 h3 h4=>
  rw[h1];refine⟨rfl,rfl,rfl,?_,_,rfl⟩;show(if _ then _ else _:List P2).length<=_
  split
  ·omega
  ·simp
 | free h1 h2 h3 h4 hw op fe=>
  rw[h1];refine⟨rfl,rfl,rfl,?_,_,rfl⟩;show(if _ then _ else _:List P2).length<=_
  split
  ·omega
  ·simp
theorem gG.kn (r:gG thread H x q H' x' q'):∀e∈x'.kn,e∈x.kn:=by
 cases r with
 | none h1 h2=>exact λe h=>h
 | stay h1 h2 h3 h4=>exact λe h=>h
 | free h1 h2 h3 h4 hw op fe=>exact λk a=>(zL.1 (show k∈x.kn.filter _ from a)).1
theorem gG.kl (r:gG thread H x q H' x' q'):x'.kn.length<=x.kn.length:=by
 cases r with
 | none h1 h2=>exact zD _
 | stay h1 h2 h3 h4=>exact zD _
 | free h1 h2 h3 h4 hw op fe=>exact pN _ _
theorem gG.qi (r:gG thread H x q H' x' q')(hi:nK q)(hr:q.rs.length<10000):nK q':=by
 obtain⟨j,d,a,i,e,g⟩:=r.len;exact⟨by rw[d];exact hi.bl,by rw[a];exact hi.by',by have:=hi.ql;omega,λk b=>hi.qs k (by rw[g];exact mg _ b),O⟩
set_option maxRecDepth 16000 in
theorem Jm (o:QP σ0 U L H held s0 P gb km fm x qb Qq Qr qs rs q)(gc:Gc σ0)(xi:∀e∈x.kn,e.1=e.2.1/\gS e.2)(hkl:x.kn.length<=1000000)(hqi:∀e∈q.q,jx e.1)(hq:q.q≠[])(hrl:q.rs.length<10000){R:aP}
 (hR:∀w H' x' q',gG thread H x q H' x' q'->QO σ0 U w L.p gb km fm qb (ku P gb km fm qb Qq Qr) H' x' q'->R w):WC.c (aW qb) thread U R:=by
 refine WC.o ?_;unfold WC.v;obtain⟨e,r,g⟩:=List.exists_cons_of_ne_nil hq;have hql:=o.rq.kP;rw[g,zS]at hql;have h0:q.q[0]?=some e:=by rw[g];rfl
 have hI:=o.i;have hes:=hI.qs e (by rw[g];exact mD);have hei:=hqi e (by rw[g];exact mD);have G:nK {q with q:=r}:=⟨hI.bl,hI.by',by have:=hI.ql;rw[g,zS]at this;show r.length<=66;omega,λk hk=>hI.qs k (by rw[g];exact mg _ hk),hI.rl⟩;refine bL (o.b.rS rfl (uB (i:=0) (bS.fW o.rq) h0 λbb oo d=>eB (d 0 _ rfl) (eB (d 1 _ rfl) (uf λv2 e2 z2 b2=>?_))));have o2:=o.fr e2;have hcap:qs.len<=qs.cap:=bS.nG o2.rq;refine bL (o2.b.rS rfl (jl (lo:=1) aC aC aC ?_));have Z:=cV.sub (bS.fW o2.rq) (lo:=1) (hi:=qs.len) (mx:=qs.cap) O (zD _) hcap;have rh:((gO q.q).drop (1*2)).take ((qs.len-1)*2)=gO r:=by
  rw[←IV,g,wk,yM,lh (by rw[UY];omega)]
 rw[rh]at Z;refine Ρ Z (by simp only;have:=hI.ql;rw[g,zS]at this;omega) λs3 v3 e3 r3=>?_;have E3:=e2.trans e3;have r3':=aI.cut r3;have z2':=e2.1;have z3:=e3.1;have hqbl:=o.b.lt;refine bL (o2.ye (aG.to e3) r3' (λc d=>.inr d) G λv4 e4 o4=>?_);have b4:=e4.bV (e3.bV b2 id) (λ(h:U.size=qb)=>O);have E4:Ext (ku P gb km fm qb Qq Qr) U v4:=(aG.to E3).trans (e4.sub λc d=>.inr (.inl d));have z4:=e4.1;have base:∀{P' Qr':Rg},(∀c,P' c->P c\/v4.size<=c)->(∀c,Qr' c->Qr c\/v4.size<=c)->∀c,ku P' gb km fm qb (Cut (λb=>v2.size<=b) v3) Qr' c->ku P gb km fm qb Qq Qr c\/U.size<=c:=λ{P' Qr'} hP hQ c d=>by
  rcases d with(h|h)|h|h|h
  ·exact(hP c h).imp (λh=>.inl (.inl h)) λh=>by omega
  ·exact .inl (.inl (.inr h))
  ·exact .inl (.inr (.inl h))
  ·right;have:v2.size<=c:=h.1;omega
  ·exact(hQ c h).imp (λh=>.inr (.inr (.inr h))) λh=>by omega
 have S:∀w,aG v4 w->(bU x.kn e.1=none\/kZ H x e.1≠0)->R w:=λw E hx=>hR w H x {q with q:=r} (.none g hx) ⟨L,held,s0,P,_,Qr,s3,rs,o4.fr E,rfl,E4.gp E,base (λc d=>.inl d) λc d=>.inl d⟩;refine b4.rI rfl (Cy o4 xi hkl hei (λw5 e5 hn=>qY λw6 e6 b6=>cF rfl (S w6 (e5.trans e6) (.inl hn))) λw5 bk e5 hg=>qY λv10 e10 b10=>cD rfl ?_);have bi:gS bk:=(xi _ (Z8 hg)).2;have bb':=bi.base;have bz:=bi.z;have bm:=bi.m;have bt:=bi.t;have bs:=bi.s;have hww:=ZS (n:=bk.2.1) O;have E510:=e5.trans e10;have gC:=o4.fr E510;have b4':=E510.bV b4 id;refine⟨λm=>aG v10 m,Ext.refl _ _,bL (gL (c:=.p) (y:=some ⟨gb,0,none⟩) (λm e=>e.bV gC.b id) rfl (gL (c:=bO) (y:=e.1) (λm e=>e.bV b4' id) rfl ?_))⟩;refine JD gC.p xi e.1 λs11 v11 Q11 F V hQ11=>cN (λC=>S v11 (E510.trans F) (.inr (by simpa using C))) λhe0=>?_;have j:kZ H x e.1=0:=by simpa using he0
 have hlo:UC H bk=false:=by
  unfold kZ at j;rw[hg]at j;simp only at j;cases hl:UC H bk with
  | false=>rfl
  | true=>rw[hl]at j;simp at j
 have hckl:vK H x e.1=QN H.sp bk:=by
  unfold vK;rw[hg];simp only;rw[hlo];rfl
 rw[hckl]at V;have A:=F.bV b10 id;refine A.rI rfl (A.rI rfl (A.rI rfl (A.rI rfl (C0 bi λs12 v12 Q12 M W Q=>?_))));have hwn:(XO bk).length=QF bk:=by simp[XO]
 have hwn2:QF bk<=200:=by unfold QF;omega
 have hbl:(QN H.sp bk).length<=40000:=by
  have:=pN (jM H.sp) (Ze bk);have hz:=Gs bk;have h3:VL bk<=250:=by unfold VL;omega
  have h4:oB bk<=33750:=by unfold oB;omega
  unfold QN;omega
 have hs12l:s12.len=QF bk:=by have:=W.1;simp[Wu,hwn]at this;omega
 have hs11':=aI.bP V M;have E12:=(E510.trans F).trans M
 let f:Int->Bool:=λz=>eO H.sp z != 0||QV H.sp z != Ga
 have hfu:(XO bk).filter f=sH H.sp bk:=rfl;have hfe:∀z,f z=(eO H.sp z != 0||QV H.sp z != Ga):=λz=>rfl
 clear_value f
 have z10:=E510.1;have z11:=F.1;have z12:=M.1;refine UD (a:=.s) (bb:=bO) (λ(wr:Sl) (z:Int) u=>aG v10 u/\v12.size<=u.size/\bS s12 1 (Wu (XO bk)) u Q12/\∃(i:Nat) (Qw:Rg),z=i/\i<=QF bk/\bS wr 1 (Wu (QN H.sp bk++((XO bk).take i).filter f)) u Qw/\∀c,Qw c->v10.size<=c/\c<u.size/\¬Q12 c) (λ_ z _=>QF bk-z.toNat)
  ⟨F.trans M,zD _,W,0,Q11,rfl,O,by rw[vt,List.filter_nil,kD];exact hs11',λc d=>by have:=hQ11 c d;exact⟨O,O,λh=>by have:=Q c h;omega⟩⟩ ?_
 rintro(wr:Sl) (z:Int) u ⟨eu,zu,hs12u,i,Qw,rfl,hi,hrw,hQw⟩;have E12u:=E510.trans eu;have K:=o4.fr E12u;have hfl:(((XO bk).take i).filter f).length<=i:=kr (pN _ _) (by rw[zY];omega);refine cP (λhlt=>?_) λhge=>?_
 ·have hx:(XO bk)[i]?=some ((XO bk)[i]' O):=cX _;generalize ((XO bk)[i]' O)=zz at hx;have hzi:=Hy bi (zG hx);have htk:((XO bk).take (i+1)).filter f=((XO bk).take i).filter f++(if f zz then[zz]else[]):=by
   rw[kz,hx,qz,wA]
   congr 1
   by_cases h:f zz=true
   ·rw[vn h,zC h];rfl
   ·rw[vq h,zB h];rfl
  refine(bS.fW hs12u).lV hx (bL (K.b.rP rfl (AX K.p (Ct K.p.h zz O λw13 B=>?_))));refine Kd (λr w=>w=w13/\r=f zz) (λr w ⟨hw,hr⟩=>?_) λJ hJ=>cN (λh=>hJ _ _ ⟨rfl,by rw[hfe,h];rfl⟩) λh=>hJ _ _ ⟨rfl,by rw[hfe,h];rfl⟩;rw[hw,hr];have z13:=B.1;have X:=aI.bP hs12u B;refine cN (λht=>?_) λhf=>cT (m:=i+1) O O ⟨⟨eu.trans B,O,X,i+1,Qw,rfl,O,by rw[htk,hf];simpa using aI.bP hrw B,λc d=>by have:=hQw c d;exact⟨this.1,O,this.2.2⟩⟩,O⟩;refine xN (aI.bP hrw B) (by rw[zK];omega) zz λs' w14 e14 hr14=>?_;have z14:=e14.1;refine cT (m:=i+1) O O ⟨⟨Ext.fresh (eu.trans B) e14 λc d=>(hQw c d).1,O,aI.bT X e14 λc _ h1 h2=>(hQw c h2).2.2 h1,i+1,_,rfl,O,by rw[htk,ht,zC rfl,←zk];exact hr14,λc d=>?_⟩,O⟩;rcases d with d|d
  ·have:=hQw c d;exact⟨this.1,O,this.2.2⟩
  ·exact⟨by have:=eu.1;omega,d.2,λh=>by have:=Q c h;omega⟩
 ·have hin:i=QF bk:=by omega
  subst hin;have hwr:QN H.sp bk++((XO bk).take (QF bk)).filter f=Kq H bk:=by
   rw[lh O,hfu];rfl
  rw[hwr]at hrw;have hwl:wr.len=(Kq H bk).length:=by have:=hrw.1;simp[Wu]at this;omega
  have hwb:(Kq H bk).length<=1000000:=by rw[←hwr,zK];omega
  have D:=eu.bV b4' id;refine tU (λw=>bZ w U.size [.int .i64 e.1,.int .i64 e.2]/\Ext (ku P gb km fm qb Qq Qr) U w/\v4.size<=w.size/\∃Qr' N,(∀c,Qr' c->Qr c\/v4.size<=c)/\QP σ0 w L H held s0 P gb km fm x qb (Cut (λb=>v2.size<=b) v3) Qr' s3 N ⟨q.bl,q.by',r,if Kq H bk=[]then q.rs else q.rs++[(e.1,lE (Kq H bk))]⟩) (λw ⟨bw,Ew,zw,Qr',N,Y,ow⟩=>?_) λJ hJ=>?_
  ·refine bL (ow.b.rP rfl (bw.rI rfl (Zf.o ?_)));unfold Zf.v;refine Is ow.p gc xi thread e.1 false (λw2 C e2=>?_) λb2 w2 ts H1 held' s0' P' er hm hf hw op fe e2 p2 hP2=>?_
   ·refine hR w2 H x _ (.stay g hg j C) ⟨L,held,s0,P,_,Qr',s3,N,ow.fr e2,rfl,Ew.gp e2,base (λc d=>.inl d) Y⟩
   ·rw[hg]at hm;cases hm;have o2':=ow.fD e2 p2 hP2;refine hR w2 H1 _ _ (.free g hg j hf hw op fe) ⟨{L with ts:=ts},held',s0',P',_,Qr',s3,N,o2',rfl,Ew.trans (e2.sub λc d=>.inl d),base (λc d=>(hP2 c d).imp id λh=>O) Y⟩
  ·refine cP (λhpos=>?_) λhneg=>?_
   ·have C:Kq H bk≠[]:=λh=>by rw[h]at hwl;simp at hwl;omega
    refine⟨λm=>bZ m qb (vL gb {q with q:=r} s3 rs)/\bZ m U.size [.int .i64 e.1,.int .i64 e.2],⟨K.b,D⟩,bL (gL (c:=.s) (y:=rs) (λm hm=>hm.1) rfl (gL (c:=bO) (y:=e.1) (λm hm=>hm.2) rfl ?_))⟩;refine T0 (bS.fW hrw) hwb C ⟨⟨K.b,D⟩,?_⟩;have nr1:¬Qr qb:=o.sQ.2.2.2;have nr2:¬Qr U.size:=λh=>by have:=(o.qr _ h).2.1;omega
    refine JV K.rr (by show q.rs.length<=100000;omega) (e.1,lE (Kq H bk)) (λw E=>⟨E.bV K.b id,E.bV D id⟩) λs' w E hr'=>⟨⟨E.bV K.b nr1,E.bV D nr2⟩,?_⟩;have qi2:nK {({q with q:=r}:Qu)with rs:=q.rs++[(e.1,lE (Kq H bk))]}:=⟨G.bl,G.by',G.ql,G.qs,by show(q.rs++[_]).length<=10000;rw[zK,rG];omega⟩;refine bL (K.gF E hr' (λc d=>d) qi2 λw2 e2 o2'=>hJ w2 ?_);have zw:=E.1;have zw2:=e2.1;refine⟨e2.bV (E.bV D nr2) (λ(h:U.size=qb)=>O),((E4.gp E12u).trans (E.sub λc d=>.inr (.inr (.inr d)))).trans (e2.sub λc d=>.inr (.inl d)),by have:=E12u.1;omega,_,s',λc (d:Qr c\/u.size<=c/\c<w.size)=>d.imp id λh=>(by have:=E12u.1;omega),?_⟩;rw[zB C];exact o2'
   ·have hnil:Kq H bk=[]:=uP O;refine hJ u ⟨D,E4.gp E12u,by have:=E12u.1;omega,Qr,rs,λc d=>.inl d,?_⟩;rw[zC hnil];exact K
structure QS (x:Gu) (q:Qu):Prop where
 xi:∀e∈x.kn,e.1=e.2.1/\gS e.2
 kl:x.kn.length<=1000000
 qa:∀e∈q.q,jx e.1
 rl:q.rs.length+q.q.length<=9000
theorem gG.side (r:gG thread H x q H' x' q')(h:QS x q):QS x' q':=by
 obtain⟨i,_,_,g,e,b⟩:=r.len;exact⟨λe d=>h.xi e (r.kn e d),kr r.kl h.kl,λk a=>h.qa k (by rw[b];exact mg _ a),by have:=h.rl;omega⟩
theorem PN (hi:nK q)(h:UU q=true):q.q≠[]:=λe=>by
 unfold UU at h;rw[e]at h;have:=hi.bl;have:=hi.by';simp[iE]at h;omega
theorem TV {thread:Int}{K:aP}(o:QP σ0 U L H held s0 P gb km fm x qb Qq Qr qs rs q)(gc:Gc σ0)(s:QS x q)
 (hR:∀w H' x' q',iJ thread H x q H' x' q'->QO σ0 U w L.p gb km fm qb (ku P gb km fm qb Qq Qr) H' x' q'->K w) :
 Yb [] (λI1=>I1 U) λJ1 v17=>Jn [.b] (λ(t99:Bool) v18=>If t99 (WC.c (aW qb) thread v18 λv19=>J1 v19) (K v18)) λJ2=>
  dV v17 λS1=>bW (some ⟨qb,0,none⟩) λa82=>gK S1 .s (a82.add 3) λ(t84:Sl)=>bW (some ⟨qb,0,none⟩) λa87=>gK S1 bO (a87.add 1) λ(t89:Int)=>If (decide (((t84.len:Nat):Int)>t89)) (J2 true v17)
   (bW (some ⟨qb,0,none⟩) λa95=>gK S1 bO (a95.add 2) λ(t97:Int)=>Wx.c (aW qb) v17 λt93 v20=>And (S1 v20)<|J2 (decide (t93>t97)) v20):=by
 refine By (λn u=>∃H1 A q1,n=q1.q.length/\QO σ0 U u L.p gb km fm qb (ku P gb km fm qb Qq Qr) H1 A q1/\(∀H' x' q',iJ thread H1 A q1 H' x' q'->iJ thread H x q H' x' q')/\QS A q1) ⟨_,H,x,q,rfl,o.qo (Ext.refl _ _),λ_ _ _ h=>h,s⟩ ?_;rintro n u ⟨H1,A,q1,rfl,W,R,s1⟩ J1 M;obtain⟨L1,a,J,P1,Qq1,Qr1,d,D,o1,E,z,F⟩:=W;refine yo (λr w=>aG u w/\r=UU q1) (λr w ⟨g,C⟩=>?_) λJ2 j=>?_
 ·have ow:=o1.fr g;refine cN (λS=>?_) λV=>hR w H1 A q1 (R _ _ _ (.stop (by rw[←C];exact V))) ⟨L1,a,J,P1,Qq1,Qr1,d,D,ow,E,z.gp g,F⟩;have G:UU q1=true:=by rw[←C];exact S
  have Z:=s1.rl;refine Jm ow gc s1.xi s1.kl s1.qa (PN o1.i G) O λY H2 X q2 fr B=>?_;have Q:=fr.len;refine M q2.q.length Y O ⟨H2,X,q2,rfl,?_,λ_ _ _ h=>R _ _ _ (.next G fr h),fr.side s1⟩;rw[E]at B;exact QO.then (z.gp g) F B
 ·have N:∀m,aG u m->bZ m qb (vL gb q1 d D):=λm e=>e.bV o1.b id;have Q:=o1.rq.kP;refine⟨λm=>aG u m,Ext.refl _ _,bL (gL (c:=.s) (y:=d) N rfl (bL (gL (c:=bO) (y:=q1.bl) N rfl (cP (λh=>j _ _ ⟨Ext.refl _ _,?_⟩) λh=>bL (gL (c:=bO) (y:=q1.by') N rfl (DW o1 λw g=>⟨g,j _ _ ⟨g,?_⟩⟩))))))⟩
  ·unfold UU;rw[zI (show(q1.q.length:Int)>q1.bl by rw[←Q];exact h)];rfl
  ·unfold UU;rw[zJ (show ¬(q1.q.length:Int)>q1.bl by rw[←Q];exact h),yl]
theorem Dq (o:QP σ0 U L H held s0 P gb km fm x qb Qq Qr qs rs q)(gc:Gc σ0)(s:QS x q)(thread:Int){R:Int->Int->Hp->Prop}(h0:∀w,ZA H thread≠0->aG U w->R 0 (ZA H thread) w)
 (h1:∀w H' x' q',ZA H thread=0->iB thread H x q H' x' q'->QO σ0 U w L.p gb km fm qb (ku P gb km fm qb Qq Qr) H' x' q'->R (q.q.length:Int) 0 w):WD.c (aW qb) thread U R:=by
 refine WD.o ?_;unfold WD.v;refine Fa o thread λv e=>cN (λd=>h0 v (by simpa using d) e) λC=>?_;have J:ZA H thread=0:=by simpa using C
 have o1:=o.fr e;have K:=o.rq.kP;refine bL (o1.b.rS rfl ?_);refine By (λn u=>∃H1 m q1,n=q1.q.length/\QO σ0 U u L.p gb km fm qb (ku P gb km fm qb Qq Qr) H1 m q1/\(∀H' x' q',iB thread H1 m q1 H' x' q'->iB thread H x q H' x' q')/\QS m q1) ⟨_,H,x,q,rfl,o.qo e,λ_ _ _ h=>h,s⟩ ?_;rintro n u ⟨H1,m,q1,rfl,N,M,s1⟩ J1 E;obtain⟨L1,a,D,P1,Qq1,Qr1,G,F,o1,A,i,B⟩:=N;have z:=o1.rq.kP;refine bL (o1.b.rS rfl (cP (λy=>?_) λg=>?_))
 ·have d:q1.q≠[]:=λh=>by rw[h]at z;simp at z;simp only at y;omega
  have V:=s1.rl;refine Jm o1 gc s1.xi s1.kl s1.qa d O λS H2 Q q2 fr r=>?_;have W:=fr.len;refine E q2.q.length S O ⟨H2,Q,q2,rfl,?_,λ_ _ _ h=>M _ _ _ (.next fr h),fr.side s1⟩;rw[A]at r;exact QO.then i B r
 ·have j:q1.q=[]:=uP (by simp only at g;omega);have:=h1 u H1 m q1 J (M _ _ _ (.stop j)) ⟨L1,a,D,P1,Qq1,Qr1,G,F,o1,A,i,B⟩;rw[←K]at this;exact this
def mQ (H:Hw)(x:Gu)(q:Qu)(thread addr:Int):Int:=
 if ZA H thread≠0 then ZA H thread else if addr∈q.q.map (·.1)then 9 else match bU x.kn addr with
 | none=>lQ H x thread addr true
 | some b=>if UC H b then 5 else if QN H.sp b≠[]then 10 else 0
theorem Rw {sp:Sp}{l:List Int}{n:Nat}{z:Int}(h:l[n]?=some z)(f:Int->Int):iL sp (l.take (n+1)) f=ZD (iL sp (l.take n) f) z (f z):=by
 rw[kz,h,qz,BM]
set_option maxRecDepth 16000 in
theorem HR (o:QP σ0 U L H held s0 P gb km fm x qb Qq Qr qs rs q)(gc:Gc σ0)(s:QS x q)(hq:q.q.length<=65)(hrl:q.rs.length+q.q.length<=8000)(thread:Int){addr:Int}(ha:jx addr){R:aN}(h0:∀w,mQ H x q thread addr≠0->aG U w->R (mQ H x q thread addr) w)
 (h1:∀w b H' x' q',bU x.kn addr=some b->mQ H x q thread addr=0->iJ thread (dP H b) x {q with q:=q.q++[(addr,b.2.1)]} H' x' q'->QO σ0 U w L.p gb km fm qb (ku P gb km fm qb Qq Qr) H' x' q'->R 0 w):Wj.c (aW qb) thread addr U R:=by
 refine Wj.o ?_;unfold Wj.v;unfold mQ at h0 h1;refine Fa o thread λv e=>cN (λj=>?_) λheq=>?_
 ·have S:ZA H thread≠0:=by simpa using j
  rw[zC S]at h0;exact h0 v S e
 have hrd:ZA H thread=0:=by simpa using heq
 rw[zB (by rw[hrd];decide)]at h0 h1;have o1:=o.fr e;refine NF o1 addr λv1 e1=>cN (λhh=>?_) λhh=>?_
 ·have J:addr∈q.q.map (·.1):=by simpa using hh
  rw[zC J]at h0;exact h0 v1 aB (e.trans e1)
 have J:¬addr∈q.q.map (·.1):=by simpa using hh
 rw[zB J]at h0 h1;have o2:=o1.fr e1;refine Cy o2 s.xi s.kl ha (λw2 e2 S=>qY λw3 e3 b3=>cF rfl ?_) λw2 bk e2 D=>qY λw3 e3 b3=>cD rfl ?_
 ·rw[S]at h0;have o3:=(o2.fr e2).fr e3;refine bL (o3.b.rP rfl (Ξ (Is o3.p gc s.xi thread addr true (λw4 j N=>h0 w4 j ((((e.trans e1).trans e2).trans e3).trans N)) λb w ts H1 held' B P' e hm'=>by rw[S]at hm';cases hm')))
 rw[D]at h0;simp only at h0;have F:gS bk:=(s.xi _ (Z8 D)).2;have bb':=F.base;have bz:=F.z;have bm:=F.m;have bt:=F.t;have bs:=F.s;have hww:=ZS (n:=bk.2.1) O;have E3:=((e.trans e1).trans e2).trans e3;have o3:=o.fr E3;refine bL (o3.b.rP rfl (JD o3.p s.xi addr λs4 v4 Q4 N hs4 _=>cN (λj=>?_) λhe0=>?_))
 ·have d:kZ H x addr≠0:=by simpa using j
  have Q:UC H bk=true:=by
   unfold kZ at d;rw[D]at d;simp only at d;cases Q:UC H bk with
   | true=>rfl
   | false=>rw[Q]at d;simp at d
  have:kZ H x addr=5:=by unfold kZ;rw[D];simp only;rw[Q];rfl
  rw[this];rw[Q]at h0;exact h0 v4 aA (E3.trans N)
 have d:kZ H x addr=0:=by simpa using he0
 have M:UC H bk=false:=by
  unfold kZ at d;rw[D]at d;simp only at d;cases Q:UC H bk with
  | false=>rfl
  | true=>rw[Q]at d;simp at d
 have W:vK H x addr=QN H.sp bk:=by
  unfold vK;rw[D];simp only;rw[M];rfl
 rw[W]at hs4;rw[M]at h0;simp only[zZ,jU]at h0;have C:s4.len=(QN H.sp bk).length:=by have:=hs4.1;simp[Wu]at this;omega
 refine cP (λhpos=>?_) λhneg=>?_
 ·have j:QN H.sp bk≠[]:=λh=>by rw[h]at C;simp at C;omega
  rw[zC j]at h0;exact h0 v4 aB (E3.trans N)
 have ab:QN H.sp bk=[]:=uP O;have h1:=λw H' x' q'=>h1 w bk H' x' q' D (by rw[D];simp only;rw[M,ab];rfl);have b4:=N.bV b3 id;have E4:=E3.trans N;have o4:=o.fr E4;refine b4.rI rfl (b4.rI rfl (b4.rI rfl (b4.rI rfl (C0 F λs5 v5 Q5 e5 aa hQ5=>?_))));have hwn:(XO bk).length=QF bk:=by simp[XO]
 have hwn2:QF bk<=200:=by unfold QF;omega
 have hs5l:s5.len=QF bk:=by have:=aa.1;simp[Wu,hwn]at this;omega
 have b5:=e5.bV b4 id;have E5:=E4.trans e5;have o5:=o.fr E5;have z4:=E4.1;have z5:=e5.1;have V:=b5.lt;have G:U.size<=w2.size:=by have:=e.1;have:=e1.1;have:=e2.1;omega
 have Y:∀c,U.size<=c->c<v5.size->¬Mg P gb km fm c:=λc h1 h2 hM=>by have:=uA o.p hM;omega
 have hnP:∀{P':Rg},(∀c,P' c->P c\/v5.size<=c)->∀c,U.size<=c->c<v5.size->¬P' c:=λhP c h1 h2 hp=>by
  rcases hP c hp with h|h
  ·have:=(o.p.pP c h).2;omega
  ·omega
 refine Qp (a:=bO) (λ(z:Int) u=>∃(i:Nat) (B:Sp) (P':Rg),z=i/\i<=QF bk/\Ext (Mg P gb km fm) v5 u/\QP σ0 u L {H with sp:=iL H.sp ((XO bk).take i) λ_=>Ga} held B P' gb km fm x qb Qq Qr qs rs q/\∀c,P' c->P c\/v5.size<=c) (λz _=>QF bk-z.toNat)
  ⟨0,s0,P,rfl,O,Ext.refl _ _,by rw[vt];exact o5,λc g=>.inl g⟩ ?_
 rintro(z:Int) u ⟨i,B,P',rfl,hi,eu,A,hP'⟩;have zu:=eu.1;have X:bS s5 1 (Wu (XO bk)) u Q5:=aI.bT aa eu λc _ g hM=>by have:=hQ5 c g;exact Y c O this.2 hM
 refine cP (λhlt=>?_) λhge=>?_
 ·have hx:(XO bk)[i]?=some ((XO bk)[i]' O):=cX _;generalize ((XO bk)[i]' O)=zz at hx;have hzi:=Hy F (zG hx);refine(bS.fW X).lV hx (bL (A.b.rP rfl (AX A.p ?_)));refine A.p.write gc zz (-1234567) O λw6 s6 P6 e6 p6 Z=>?_;have o6:=A.fD (e6.sub λc g=>.inl g) p6 Z;refine cT (m:=i+1) O O ⟨⟨i+1,s6,P6,rfl,O,Ext.dW eu e6 λc g=>(hP' c g).imp .inl id,?_,λc g=>?_⟩,O⟩
  ·rw[Rw hx];exact o6
  ·rcases Z c g with h|h
   ·exact hP' c h
   ·exact .inr O
 ·have hin:i=QF bk:=by omega
  subst hin;rw[lh O]at A;have A:QP σ0 u L (dP H bk) held B P' gb km fm x qb Qq Qr qs rs q:=A;have K:=eu.bV b5 (Y _ G V);have nq:¬Qq w2.size:=λh=>by have:=(o.qq _ h).2.1;omega
  refine⟨λm=>bZ m qb (vL gb q qs rs)/\bZ m w2.size (lJ (bk.1,bk.2.1,bk.2.2.1,bk.2.2.2.1)),⟨A.b,K⟩,bL (gL (c:=.s) (y:=qs) (λm J=>J.1) rfl (gL (c:=bO) (y:=bk.2.1) (λm J=>J.2) rfl ?_))⟩;refine JV A.rq (by have:=o.i.ql;omega) (addr,bk.2.1) (λw E=>⟨E.bV A.b id,E.bV K id⟩) λs' w E hr'=>⟨⟨E.bV A.b o.sQ.2.2.1,E.bV K nq⟩,?_⟩;have qi2:nK {q with q:=q.q++[(addr,bk.2.1)]}:=⟨o.i.bl,o.i.by',by show(q.q++[_]).length<=66;rw[zK,rG];omega,λk r=>by
   rcases zM.1 r with r|r
   ·exact o.i.qs k r
   ·rw[zN]at r;subst r;exact bs,o.i.rl⟩
  refine bL (A.ye E hr' (λc g=>g) qi2 λw2' e2' o2'=>?_);have qs2:QS x {q with q:=q.q++[(addr,bk.2.1)]}:=⟨s.xi,s.kl,λk r=>by
   rcases zM.1 r with r|r
   ·exact s.qa k r
   ·rw[zN]at r;subst r;exact ha,by show q.rs.length+(q.q++[_]).length<=9000;rw[zK,rG];omega⟩
  have zw:=E.1;refine TV o2' gc qs2 λw3' H' x' q' hov oo=>h1 w3' H' x' q' hov ?_;refine QO.then (v:=w2') (T:=ku P' gb km fm qb (λb=>Qq b\/u.size<=b/\b<w.size) Qr) ((((aG.to E5).trans (eu.sub λc g=>.inl g)).trans (E.sub λc g=>.inr (.inr (.inl g)))).trans (e2'.sub λc g=>.inr (.inl g))) (λc g=>?_) oo;have:=E5.1;rcases g with(h|h)|h|h|h
  ·exact(hP' c h).imp (λh=>.inl (.inl h)) λh=>by omega
  ·exact .inl (.inl (.inr h))
  ·exact .inl (.inr (.inl h))
  ·exact h.imp (λh=>.inr (.inr (.inl h))) λh=>by omega
  ·exact .inl (.inr (.inr (.inr h)))
end Go.Ar
namespace Go.Proofs
open Go.Vc
set_option maxRecDepth 100000
def Xi.h:Hn:=.q .o1 (.q (.q .o5 .aK) (.q (.q .o1 (.k (.loop [(5,.I)] (.q (.q .o4 (.c .l .l)) (.q (.k (.q (.oq 9) .aK)) .o3))))) .aM))
def Xi.v (a b:Sl)(c:Hp)(d:aO):Prop:=If (((a.len:Nat):Int) != ((b.len:Nat):Int)) (d false c) (Yb [bO] (λe=>e 0 c) λf (g:Int) h=>If (g<((a.len:Nat):Int)) (Ix a.a a.len g 2 λi=>aQ i 0 h λj=>aQ i 1 h λk=>Ix b.a b.len g 2 λl=>aQ l 0 h λm=>aQ l 1 h λn=>If (!((j==m)&&((k==n)&&true))) (d false h) (bM (g+1) λo=>f o h)) (d true h))
theorem Xi.o {a b c d}(e:Xi.v a b c d):Xi.c a b c d:=Wa Tryz.func54 (x:=Xi.h) (R0 e)
end Go.Proofs
namespace Go.Ar
open Go Go.Vc Go.Proofs
open Go.Vc (bU dA cO)
variable {thread:Int}{U σ0 v w w':Hp}{F P Q X T Tc:Rg}{L:dE}{H H' H1:Hw}{held:List Pc}{s0 sp:Sp}{t n:Nat}{gb km fm m pp:Nat}{x y x':Gu}{b:B5}{qb:Nat}{Qq Qr:Rg}{qs rs:Sl}{q q':Qu}
theorem QP.tC (o:QP σ0 U L H held s0 P gb km fm x qb Qq Qr qs rs q){L':dE}{held':List Pc}{s0':Sp}{P':Rg}(hp:L'.p=L.p)(e:Ext (Mg P gb km fm) U w)(p':GP σ0 w L' H' held' s0' P' gb km fm y)(hP:∀b,P' b->P b\/U.size<=b) :
 QO σ0 U w L.p gb km fm qb (ku P gb km fm qb Qq Qr) H' y q:=by
 refine⟨L',held',s0',P',Qq,Qr,qs,rs,o.fD e p' hP,hp,e.sub λc a=>.inl a,λc a=>?_⟩;rcases a with(h|h)|h|h|h
 ·exact(hP c h).imp (λh=>.inl (.inl h)) id
 ·exact .inl (.inl (.inr h))
 ·exact .inl (.inr (.inl h))
 ·exact .inl (.inr (.inr (.inl h)))
 ·exact .inl (.inr (.inr (.inr h)))
theorem IG (o:QP σ0 U L H held s0 P gb km fm x qb Qq Qr qs rs q)(gc:Gc σ0)(x0:0<=x.no/\x.no<=100000)(thread size align:Int){R:Int->Int->Hp->Prop}
 (h0:∀w,mw size align=false->aG U w->R 0 1 w)
 (h1:∀e w H',mw size align=true->e≠0->KG H thread 0 (zA align+ZB size+16) (zA align) 0 H' 0 e->fS H H'->H'.live=H.live->QO σ0 U w L.p gb km fm qb (ku P gb km fm qb Qq Qr) H' x q->R 0 e w)
 (h2:∀b w H1,wb H x size align b H1->KG H thread 0 (zA align+ZB size+16) (zA align) 0 H1 b.2.2.1 0->fS H H1->QO σ0 U w L.p gb km fm qb (ku P gb km fm qb Qq Qr) {H1 with sp:=jT H1.sp b} (x.dX b) q->R b.1 0 w) :
 Wp.c (aW qb) thread size align U R:=by
 refine Wp.o ?_;unfold Wp.v;refine Ur o (cD rfl (bL (o.b.rP rfl (MU o.p gc x0 thread size align h0 (λe w ts H' a m P' u j i op z g r d=>?_) λb w ts H1 a m P' s i op g r d=>?_))))
 ·exact h1 e w H' u j i op z (o.tC (L':={L with ts:=ts}) rfl (g.sub λc y=>.inl y) r d)
 ·exact h2 b w H1 s i op (o.tC (L':={L with ts:=ts}) rfl g r d)
theorem JL (o:QP σ0 U L H held s0 P gb km fm x qb Qq Qr qs rs q)(s:QS x q)(addr:Int)(ha:addr<=9223372036854775807){R:Int->Int->Hp->Prop}(ht:∀w,UA x q addr=true->aG U w->R 0 9 w)(h0:∀e w,UA x q addr=false->e≠0->aG U w->pI H x addr e->R 0 e w)
 (h1:∀w,UA x q addr=false->aG U w->pI H x addr 0->R (QV H.sp addr) (eO H.sp addr) w):WF.c (aW qb) addr U R:=by
 refine WF.o ?_;unfold WF.v;refine Ur o (cD rfl (F2 o s.xi s.kl s.qa addr λw e=>cN (λh=>ht w h e) λh=>?_));have o1:=o.fr e;exact bL (o1.b.rP rfl (R3 o1.p s.xi addr ha (λi d a e2 g=>h0 i d h a (e.trans e2) g) λd e2 g=>h1 d h (e.trans e2) g))
theorem Wiw (o:QP σ0 U L H held s0 P gb km fm x qb Qq Qr qs rs q)(gc:Gc σ0)(s:QS x q)(addr u:Int)(ha:addr<=9223372036854775807){R:aN}(ht:∀w,UA x q addr=true->aG U w->R 9 w)(h0:∀e w,UA x q addr=false->e≠0->aG U w->pI H x addr e->R e w)
 (h1:∀w,UA x q addr=false->pI H x addr 0->QO σ0 U w L.p gb km fm qb (ku P gb km fm qb Qq Qr) {H with sp:=ZD H.sp addr u} x q->R (eO H.sp addr) w):WP.c (aW qb) addr u U R:=by
 refine WP.o ?_;unfold WP.v;refine Ur o (cD rfl (F2 o s.xi s.kl s.qa addr λw e=>cN (λh=>ht w h e) λh=>?_));have o1:=o.fr e;refine bL (o1.b.rP rfl (Pw o1.p gc s.xi addr u ha (λr d a e2 j=>h0 r d h a (e.trans e2) j) λd s2 P2 j e2 m i=>h1 d h j ?_));exact QO.then (T:=ku P gb km fm qb Qq Qr) (aG.to e) (λc g=>.inl g) (o1.tC rfl (e2.sub λc g=>.inl g) m i)
theorem Lo (p:GP σ0 U L H held s0 P gb km fm x)(W9 bytes:Int){R:Option Addr->Int->Hp->Prop}(h0:¬(0<=W9/\W9<=64/\0<=bytes/\bytes<=16384)->R none 1 U)
 (h1:0<=W9/\W9<=64/\0<=bytes/\bytes<=16384->∀w,aG U w->QP σ0 w L H held s0 P gb km fm x U.size (λ_=>False) (λ_=>False) ⟨none,0,0⟩ ⟨none,0,0⟩ ⟨W9,bytes,[],[]⟩->R (some ⟨U.size,0,none⟩) 0 w) :
 Zq.c (aW gb) W9 bytes U R:=by
 refine Zq.o ?_;unfold Zq.v;refine AX p (Kd (λr w=>w=U/\r=decide (W9<0)) (λr w ⟨i,g⟩=>?_) λJ a=>cD rfl (a _ _ ⟨rfl,rfl⟩));rw[i,g];refine Kd (λr w=>w=U/\r=decide (W9<0\/W9>64)) (λr w ⟨i,g⟩=>?_) λJ a=>cP (λh=>a _ _ ⟨rfl,by rw[zI (.inl h)]⟩) λh=>a _ _ ⟨rfl,by rw[kA,decide_eq_true_iff,decide_eq_true_iff];omega⟩;rw[i,g];refine Kd (λr w=>w=U/\r=decide (W9<0\/W9>64\/bytes<0)) (λr w ⟨i,g⟩=>?_) λJ a=>cP (λh=>a _ _ ⟨rfl,by rw[zI O]⟩) λh=>a _ _ ⟨rfl,by rw[kA,decide_eq_true_iff,decide_eq_true_iff];omega⟩;rw[i,g];refine Kd (λr w=>w=U/\r=decide (W9<0\/W9>64\/bytes<0\/bytes>16384)) (λr w ⟨i,g⟩=>?_) λJ a=>cP (λh=>a _ _ ⟨rfl,by rw[zI O]⟩) λh=>a _ _ ⟨rfl,by rw[kA,decide_eq_true_iff,decide_eq_true_iff];omega⟩;rw[i,g];refine cP (λh=>h0 O) λh=>?_;refine nw (cs:=[.pointer (some ⟨gb,0,none⟩),.int .i64 W9,.int .i64 bytes,.slice none 0 0,.slice none 0 0]) λw m e d=>h1 O w e ?_;exact⟨p.fr e,d,⟨rfl,.inl ⟨rfl,rfl⟩⟩,⟨rfl,.inl ⟨rfl,rfl⟩⟩,⟨p.e.1,λj=>by have:=uA p j;omega,id,id⟩,λb d=>d.elim,λb d=>d.elim,λb d=>d.elim,⟨by show 0<=W9/\W9<=64;omega,by show 0<=bytes/\bytes<=16384;omega,by simp,by simp,by simp⟩⟩
theorem OU (n:Nat):(List.replicate n [Value.int .i64 0,.int .i64 0]).flatten=gO (List.replicate n (0,0)):=by
 induction n with
 | zero=>rfl
 | succ n ih=>rw[tg,tg,vp,ih];rfl
theorem RR (o:QP σ0 U L H held s0 P gb km fm x qb Qq Qr qs rs q){R:Sl->Hp->Prop}(hR:∀s w Q,aG U w->bS s 2 (gO q.rs) w Q->(∀c,Q c->U.size<=c/\c<w.size)->R s w):WL.c (aW qb) U R:=by
 refine WL.o ?_;unfold WL.v;have d:=o.rr.kP;have y:=o.i.rl;refine Ur o (cD rfl (bL (o.b.rS rfl (mk aC aC λv r e j=>?_))));have o1:=o.fr e;rw[OU]at j;have a:=UY q.rs;refine bL (o1.b.rS rfl ⟨gO q.rs,by rw[a];simp only;omega,o1.rr.rd,ET _,?_⟩);simp only at j ⊢;refine V4 j (by rw[a,UY,List.length_replicate];omega) λp o2 m=>?_;have g:List.take (0+0) (gO (List.replicate rs.len (0,0)))++gO q.rs++List.drop (0+0+(gO q.rs).length) (gO (List.replicate rs.len (0,0)))=gO q.rs:=by
  rw[List.drop_eq_nil_of_le (by rw[a,UY,List.length_replicate];omega)];simp
 rw[g]at m;refine hR _ p (· = U.size) (Ext.fresh e o2.ext λi (hi:i=U.size)=>O) ⟨by rw[a,d],.inr ⟨U.size,_,rfl,rfl,m,zD _,by rw[a,d],lW⟩⟩ λc u=>?_;have:=m.lt;omega
theorem Tq {a b:Sl}{xs ys:List P2}(ha:cV a 2 (gO xs) U F)(hb:cV b 2 (gO ys) U Q)(hl:xs.length<=1000000){R:aO}(hR:xs=ys->R true U)(he:xs=ys):Xi.c a b U R:=by
 subst he;refine Xi.o ?_;unfold Xi.v;have g:a.len=xs.length:=by have:=ha.1;rw[UY]at this;omega
 have s:b.len=xs.length:=by have:=hb.1;rw[UY]at this;omega
 rw[g,s];refine cD aA (Qp (a:=bO) (λ(i:Int) w=>w=U/\∃k:Nat,i=k/\k<=xs.length) (λi _=>xs.length-i.toNat) ⟨rfl,0,rfl,O⟩ ?_);rintro(i:Int) w ⟨rfl,k,rfl,hk⟩;refine cP (λu=>?_) λx=>hR rfl;have d:xs[k]?=some (xs[k]' O):=cX _;generalize (xs[k]' O)=r at d;rw[←g];refine uB ha d λy o1 p=>eB (p 0 _ rfl) (eB (p 1 _ rfl) ?_);rw[g,←s];refine uB hb d λz o2 j=>eB (j 0 _ rfl) (eB (j 1 _ rfl) ?_);exact cD aA (cT (m:=k+1) O O ⟨⟨rfl,k+1,rfl,O⟩,O⟩)
end Go.Ar
namespace Go.Proofs
open Go.Vc
set_option maxRecDepth 100000
def X6.h:Hn:=.q .o2 (.q (.q .o2 .aK) (.q .o3 (.q (.q .o2 .aK) (.q .o7 (.q .o9 (.q (.q (.cU (.seq [.op,.op,.op,.cW false 2 [.op,.op]])) .aK) (.q .o5 .l)))))))
def X6.v (a b c d e f g h:Int)(i:Hp)(j:Option Addr->Hp->Prop):Prop:=aV #[.I a,.I b,.I c,.I d,.I e,.I f] 25 i λk l=>aQ k 0 l λm=>aQ k 1 l λn=>aQ k 2 l λo=>aQ k 3 l λp=>aQ k 4 l λq=>aQ k 5 l λr=>W8.c m n o p q r l λs t=>If s (j none t) (aQ k 0 t λu=>aQ k 1 t λv=>aQ k 2 t λw=>aQ k 3 t λx=>aQ k 4 t λy=>aQ k 5 t λz=>WM.c u v w x y z t λaa ab=>If aa.isNone (j none ab) (Ka.c aa ab λac ad ae=>Zq.c ac g h ae λaf ag ah=>bX (λai aj=>If ai (j none aj) (aV #[.pointer aa,.pointer af,.slice none 0 0,.slice none 0 0] 35 aj λak al=>j (some ak) al)) λam=>If (ag != 0) (am true ah) (am af.isNone ah)))
theorem X6.o {a b c d e f g h i j}(k:X6.v a b c d e f g h i j):X6.c a b c d e f g h i j:=Wa Tryz.func13 (x:=X6.h) (R0 k)
def XA.h:Hn:=.q .o1 (.q .o2 (.q (.q .o2 .aK) (.q .o7 (.q .o7 (.q (.q (.cU (.seq [.op,.op,.op,.cW false 2 [.op,.op]])) .aK) (.q .o7 (.q .o7 (.q .o7 (.q (.q (.cU (.seq [.op,.op,.op,.op,.op,.cW false 4 (RI.ops 4),.op,.cW false 7 (RI.ops 7),.op,.cW false 3 (RI.ops 3),.op,.cW false 4 (RI.ops 4)])) .aK) (.q .o8 (.q (.q (.cU (.seq [.op,.op,.op,.cW false 4 (RI.ops 4),.op,.cW false 7 (RI.ops 7),.op,.cW false 4 (RI.ops 4)])) .aK) (.q .o7 (.q (.cU (.seq [.op,.op,.op,.cW true 2 [.op,.op],.op,.cW true 7 (RI.ops 7),.op])) .l)))))))))))))
def XA.v (a:Hp)(b:aO):Prop:=XN.c a λc d=>If c.isNone (b false d) (Ka.c c d λe f g=>Zq.c e 2 1000 g λh i j=>bX (λk l=>If k (b false l) (Wp.c h 0 24 8 l λm n o=>Wp.c h 0 24 8 o λp q r=>Wp.c h 0 24 8 r λs t u=>Wj.c h 0 m u λv w=>bX (λx y=>bX (λz aa=>bX (λab ac=>bX (λad ae=>If ad (b false ae) (WF.c h m ae λaf ag ah=>bX (λai aj=>bX (λak al=>bX (λam an=>If am (b false an) (WD.c h 0 an λao ap aq=>bX (λar au=>bX (λav aw=>b av aw) λax=>If ar (WL.c h au λay az=>aV #[.I p,.I p] 62 az λa0 a1=>Xi.c ay ⟨some a0,1,1⟩ a1 λa2 a3=>ax a2 a3) (ax false au)) λa4=>If (ao==2) (a4 (ap==0) aq) (a4 false aq))) λa5=>If ak (a5 true al) (Xw.c c p 3 al λa6 a7=>a5 (a6 != 0) a7)) λa8=>If ai (a8 true aj) (Wy.c h aj λa9 ba=>aV #[.I p,.I s] 3 ba λbb bc=>WY.c a9 ⟨some bb,2,2⟩ bc λbd be=>a8 (!bd) be)) λbf=>If (ag != 9) (bf true ah) (Wj.c h 0 s ah λbg bh=>bf (bg != 0) bh))) λbi=>If ab (bi true ac) (Wj.c h 0 m ac λbj bk=>bi (bj != 9) bk)) λbl=>If z (bl true aa) (Wx.c h aa λbm bn=>bl (bm != 48) bn)) λbo=>If x (bo true y) (Wy.c h y λbp bq=>aV #[.I m,.I p] 3 bq λbr bs=>WY.c bp ⟨some br,2,2⟩ bs λbt bu=>bo (!bt) bu)) λbv=>If (v != 0) (bv true w) (Wj.c h 0 p w λbw bx=>bv (bw != 0) bx))) λbz=>If (i != 0) (bz true j) (bz h.isNone j))
theorem XA.o {a b}(c:XA.v a b):XA.c a b:=Wa Tryz.func15 (x:=XA.h) (R0 c)
def Xp.h:Hn:=.q .o2 (.q (.cU (.tail 5 (RI.ops 5) [.op,.op])) (.q (.q .o2 (.k (.q .o2 (.c (.q (.cU (.held true [10] (.tk [0,1,2,3,4,5,6,7,8,9] (.all [(10,.tk [11,12,13,14,15] (.done))])))) (.q (.q .o2 (.c (.o 11) .l)) .aL)) (.q .o2 (.c (.q (.cU (.tail 7 (RI.ops 7) [.op,.op])) (.q (.q .o2 (.c (.o 11) .l)) .aL)) (.q .o2 (.c (.q (.cU (.held true [6] (.tk [0,1,2,3,4,5] (.all [(6,.tk [7,8,9,10,11] (.done))])))) .aL) (.q .o2 (.c (.q (.o 11) .aL) (.q .o2 (.c (.q (.cU (.tail 7 (RI.ops 7) [.op,.op])) .l) .l)))))))))))) .aM))
def Xp.v (a:R2)(b c d e f g h:Int)(i:ByteArray)(j:Hp)(k:aN):Prop:=aV #[.I b,.I c,.I d,.I e,.I f,.I g,.I h,.string i] 40 j λl m=>bF a 2 m λo=>aQ l 0 m λp=>aQ l 1 m λq=>aQ l 2 m λr=>aQ l 3 m λs=>aQ l 4 m λt=>aQ l 5 m λu=>aQ l 6 m λv=>bD l 7 m λw=>YY.c o p q r s t u v w m λx y=>aQ l 0 y λz=>If (z==40) (dV y λaa=>bW a λab=>aU aa ab 1 λac=>aS aa l 1 λad=>aS aa l 2 λae=>aS aa l 3 λaf=>Wp.c ac ad ae af y λag ah ai=>If (ah==0) (bF a 2 ai λak=>aV #[.I ag] 3 ai λal am=>App ak 1 8 3 [.I 0] ⟨some al,1,1⟩ am λan ao=>bW a λap=>aR ap 2 (.slice an.a an.len an.cap) ao λaq=>k ah aq) (k ah ai)) (If (z==41) (bG a 1 y λau=>aQ l 1 y λav=>Wj.c au av x y λaw ax=>If (aw==0) (bF a 3 ax λaz=>aV #[.I x] 3 ax λa0 a1=>App az 1 8 3 [.I 0] ⟨some a0,1,1⟩ a1 λa2 a3=>bW a λa4=>aR a4 3 (.slice a2.a a2.len a2.cap) a3 λa5=>k aw a5) (k aw ax)) (If (z==42) (dV y λa6=>bW a λa7=>aU a6 a7 1 λa8=>aS a6 l 1 λa9=>WD.c a8 a9 y λba bb bc=>k bb bc) (If (z==43) (bG a 1 y λbe=>WF.c be x y λbf bg bh=>k bg bh) (If (z==44) (bG a 1 y λbj=>
 aQ l 6 y λbk=>WP.c bj x bk y λbl bm=>k bl bm) (k 0 y)))))
theorem Xp.o {a b c d e f g h i j k}(l:Xp.v a b c d e f g h i j k):Xp.c a b c d e f g h i j k:=Wa Tryz.func17 (x:=Xp.h) (R0 l)
end Go.Proofs
namespace Go.Ar
open Go Go.Vc Go.Proofs
open Go.Vc (bU dA cO)
variable {thread:Int}{U σ0 v w w':Hp}{F P Q X T T' Tc Qa Qf:Rg}{L:dE}{H H' H1:Hw}{held:List Pc}{s0 sp:Sp}{t n:Nat}{gb km fm m pp xb:Nat}{x y x':Gu}{b:B5}{qb:Nat}{Qq Qr:Rg}{qs rs addrs fl:Sl}{ad fd:List Int}{q q':Qu}
def QB (σ0 U:Hp)(pp gb km fm qb:Nat)(T:Rg)(H:Hw)(x:Gu)(q:Qu):Prop:=
 ∃L held s0 P Qq Qr qs rs,QP σ0 U L H held s0 P gb km fm x qb Qq Qr qs rs q/\L.p=pp/\T=ku P gb km fm qb Qq Qr
theorem QB.fr (o:QB σ0 U pp gb km fm qb T H x q)(e:aG U w):QB σ0 w pp gb km fm qb T H x q:=by
 obtain⟨L,a,s0,P,Qq,Qr,qs,d,h,g,b⟩:=o;exact⟨L,a,s0,P,Qq,Qr,qs,d,h.fr e,g,b⟩
theorem QB.out (o:QB σ0 U pp gb km fm qb T H x q)(e:Ext X U w)(hX:∀b,b<U.size->X b->¬T b/\σ0.size<=b):QB σ0 w pp gb km fm qb T H x q:=by
 obtain⟨L,a,s0,P,Qq,Qr,qs,d,h,g,rfl⟩:=o;exact⟨L,a,s0,P,Qq,Qr,qs,d,h.out e hX,g,rfl⟩
theorem QB.lt (o:QB σ0 U pp gb km fm qb T H x q){c:Nat}(h:T c):σ0.size<=c/\c<U.size:=by
 obtain⟨L,a,s0,P,Qq,Qr,qs,d,b,g,rfl⟩:=o;exact JK b h
theorem QB.e (o:QB σ0 U pp gb km fm qb T H x q):aG σ0 U:=by
 obtain⟨L,a,s0,P,Qq,Qr,qs,d,b,g,rfl⟩:=o;exact b.p.e
theorem QB.hi (o:QB σ0 U pp gb km fm qb T H x q):∃held s0,HI H held s0:=by
 obtain⟨L,held,s0,P,Qq,Qr,qs,b,a,d,rfl⟩:=o;exact⟨held,s0,a.p.hi⟩
theorem QB.cf (o:QB σ0 U pp gb km fm qb T H x q):iS H:=by
 obtain⟨L,a,s0,P,Qq,Qr,qs,d,b,g,rfl⟩:=o;exact b.p.cf
theorem QB.qi (o:QB σ0 U pp gb km fm qb T H x q):nK q:=by
 obtain⟨L,a,s0,P,Qq,Qr,qs,d,b,g,rfl⟩:=o;exact b.i
theorem QO.tb (o:QO σ0 U w pp gb km fm qb Tc H x q):∃T',QB σ0 w pp gb km fm qb T' H x q/\Ext Tc U w/\∀c,T' c->Tc c\/U.size<=c:=by
 obtain⟨L',a,d,P',Qq',Qr',g,b,h,i,m,j⟩:=o;exact⟨_,⟨L',a,d,P',Qq',Qr',g,b,h,i,rfl⟩,m,j⟩
def AU (hp qb:Nat)(addrs fl:Sl):List Value:=[.pointer (some ⟨hp,0,none⟩),.pointer (some ⟨qb,0,none⟩),.slice addrs.a addrs.len addrs.cap,.slice fl.a fl.len fl.cap]
def pD (T:Rg)(xb:Nat)(Qa Qf:Rg):Rg:=λb=>T b\/b=xb\/Qa b\/Qf b
structure OQ (σ0 U:Hp) (xb pp gb km fm qb:Nat) (T Qa Qf:Rg) (H:Hw) (x:Gu) (q:Qu) (addrs:Sl) (ad:List Int) (fl:Sl) (fd:List Int):Prop where
 p:QB σ0 U pp gb km fm qb T H x q
 b:bZ U xb (AU pp qb addrs fl)
 ra:bS addrs 1 (Wu ad) U Qa
 rf:bS fl 1 (Wu fd) U Qf
 qI:σ0.size<=xb/\¬T xb/\¬Qa xb/\¬Qf xb
 qa:∀b,Qa b->σ0.size<=b/\b<U.size/\¬T b
 qf:∀b,Qf b->σ0.size<=b/\b<U.size/\¬T b
 dj:∀b,Qa b->¬Qf b
theorem OQ.om (o:OQ σ0 U xb pp gb km fm qb T Qa Qf H x q addrs ad fl fd)(e:aG U w):OQ σ0 w xb pp gb km fm qb T Qa Qf H x q addrs ad fl fd:=
 ⟨o.p.fr e,e.bV o.b id,aI.bP o.ra e,aI.bP o.rf e,o.qI,λb a=>by have h:=o.qa b a;have:=e.1;exact⟨h.1,O,h.2.2⟩,λb a=>by have h:=o.qf b a;have:=e.1;exact⟨h.1,O,h.2.2⟩,o.dj⟩
theorem OQ.fD (o:OQ σ0 U xb pp gb km fm qb T Qa Qf H x q addrs ad fl fd)(e:Ext T U w)(p':QB σ0 w pp gb km fm qb T' H' x' q')(hT:∀c,T' c->T c\/U.size<=c):OQ σ0 w xb pp gb km fm qb T' Qa Qf H' x' q' addrs ad fl fd:=by
 have z:=e.1;have g:=o.b.lt;obtain⟨y,m,u,p⟩:=o.qI;have i:∀b,b<U.size->¬T b->¬T' b:=λb A s r=>(hT b r).elim s λh=>by omega
 exact⟨p',e.bV o.b m,aI.bT o.ra e λb _ d j=>(o.qa b d).2.2 j,aI.bT o.rf e λb _ d j=>(o.qf b d).2.2 j,⟨y,i _ g m,u,p⟩,λb a=>by have h:=o.qa b a;exact⟨h.1,O,i b h.2.1 h.2.2⟩,λb a=>by have h:=o.qf b a;exact⟨h.1,O,i b h.2.1 h.2.2⟩,o.dj⟩
theorem OQ.cE (o:OQ σ0 U xb pp gb km fm qb T Qa Qf H x q addrs ad fl fd){s':Sl}{ad':List Int}(e:Ext Qa U w)(hr:bS s' 1 (Wu ad') w λb=>Qa b\/U.size<=b/\b<w.size){K:aP}
 (hK:∀u,Ext (· = xb) w u->OQ σ0 u xb pp gb km fm qb T (λb=>Qa b\/U.size<=b/\b<w.size) Qf H x q s' ad' fl fd->K u):dZ (Addr.add ⟨xb,0,none⟩ 2) (.slice s'.a s'.len s'.cap) w K:=by
 have L:=e.1;have G:=o.b.lt;obtain⟨z,A,B,s⟩:=o.qI;have J:=o.p.e.1;have F:=o.p.out e λb _ d=>⟨(o.qa b d).2.2,(o.qa b d).1⟩;have m:=aI.bT o.rf e λb _ i D=>o.dj b D i;refine(e.bV o.b B).s1 (by simp[AU]) λu r b=>?_;have g:=r.ext;have E:=r.1;have y:¬(Qa xb\/U.size<=xb/\xb<w.size):=λh=>h.elim B λh=>by omega
 refine hK u g ⟨F.out g λb _ (d:b=xb)=>by subst d;exact⟨A,z⟩,b,aI.bT hr g λb _ j (d:b=xb)=>y (d▸j),aI.bT m g λb _ j (d:b=xb)=>s (d▸j),⟨z,A,y,s⟩,λb d=>?_,λb d=>by have h:=o.qf b d;exact⟨h.1,O,h.2.2⟩,λb d i=>?_⟩
 ·rcases d with d|d
  ·have h:=o.qa b d;exact⟨h.1,O,h.2.2⟩
  ·exact⟨O,O,λC=>by have:=o.p.lt C;omega⟩
 ·rcases d with d|d
  ·exact o.dj b d i
  ·have:=(o.qf b i).2.1;omega
theorem OQ.CQ (o:OQ σ0 U xb pp gb km fm qb T Qa Qf H x q addrs ad fl fd){s':Sl}{fd':List Int}(e:Ext Qf U w)(hr:bS s' 1 (Wu fd') w λb=>Qf b\/U.size<=b/\b<w.size){K:aP}
 (hK:∀u,Ext (· = xb) w u->OQ σ0 u xb pp gb km fm qb T Qa (λb=>Qf b\/U.size<=b/\b<w.size) H x q addrs ad s' fd'->K u):dZ (Addr.add ⟨xb,0,none⟩ 3) (.slice s'.a s'.len s'.cap) w K:=by
 have L:=e.1;have G:=o.b.lt;obtain⟨z,A,B,s⟩:=o.qI;have J:=o.p.e.1;have F:=o.p.out e λb _ d=>⟨(o.qf b d).2.2,(o.qf b d).1⟩;have m:=aI.bT o.ra e λb _ D g=>o.dj b D g;refine(e.bV o.b s).s1 (by simp[AU]) λu r b=>?_;have i:=r.ext;have E:=r.1;have y:¬(Qf xb\/U.size<=xb/\xb<w.size):=λh=>h.elim s λh=>by omega
 refine hK u i ⟨F.out i λb _ (d:b=xb)=>by subst d;exact⟨A,z⟩,b,aI.bT m i λb _ j (d:b=xb)=>B (d▸j),aI.bT hr i λb _ j (d:b=xb)=>y (d▸j),⟨z,A,B,y⟩,λb d=>by have h:=o.qa b d;exact⟨h.1,O,h.2.2⟩,λb d=>?_,λb d g=>?_⟩
 ·rcases d with d|d
  ·have h:=o.qf b d;exact⟨h.1,O,h.2.2⟩
  ·exact⟨O,O,λC=>by have:=o.p.lt C;omega⟩
 ·rcases g with g|g
  ·exact o.dj b d g
  ·have:=(o.qa b d).2.1;omega
inductive jk (H:Hw) (x:Gu) (q:Qu) (d:fo) (a:Int):Hw->Gu->Qu->Int->Option Int->Option Int->Prop
 | same (e:Int):(e=0->d.kd≠40/\d.kd≠41/\d.kd≠42)->jk H x q d a H x q e none none
 | full {H':Hw} {e:Int}:d.kd=40->mw d.a d.b=true->e≠0->KG H d.th 0 (zA d.b+ZB d.a+16) (zA d.b) 0 H' 0 e->fS H H'->H'.live=H.live->jk H x q d a H' x q e none none
 | dX {b:B5} {H1:Hw}:d.kd=40->wb H x d.a d.b b H1->KG H d.th 0 (zA d.b+ZB d.a+16) (zA d.b) 0 H1 b.2.2.1 0->fS H H1->jk H x q d a {H1 with sp:=jT H1.sp b} (x.dX b) q 0 (some b.1) none
 | kV {b:B5} {H':Hw} {x':Gu} {q':Qu}:d.kd=41->bU x.kn a=some b->mQ H x q d.th a=0->iJ d.th (dP H b) x {q with q:=q.q++[(a,b.2.1)]} H' x' q'->jk H x q d a H' x' q' 0 none (some a)
 | drain {H':Hw} {x':Gu} {q':Qu}:d.kd=42->ZA H d.th=0->iB d.th H x q H' x' q'->jk H x q d a H' x' q' 0 none none
 | wrote:d.kd=44->UA x q a=false->pI H x a 0->jk H x q d a {H with sp:=ZD H.sp a d.va} x q (eO H.sp a) none none
set_option maxRecDepth 16000 in
theorem Rj (o:OQ σ0 U xb pp gb km fm qb T Qa Qf H x q addrs ad fl fd)(gc:Gc σ0)(s:QS x q)(x0:0<=x.no/\x.no<=100000)(hq:q.q.length<=65)(hrl:q.rs.length+q.q.length<=8000)(hal:ad.length<=100000)(hfl:fd.length<=100000)(d:fo)(di:kT d){R:aN}
 (hR:∀e w T' H' x' q' Qa' Qf' addrs' fr' add del,OQ σ0 w xb pp gb km fm qb T' Qa' Qf' H' x' q' addrs' (ad++Option.toList add) fr' (fd++Option.toList del)->jk H x q d (sL ad d) H' x' q' e add del->Ext (pD T xb Qa Qf) U w->(∀b,pD T' xb Qa' Qf' b->pD T xb Qa Qf b\/U.size<=b)->R e w) :
 Xp.c (aW xb) d.kd d.th d.a d.b d.of d.pl d.va d.s U R:=by
 refine Xp.o ?_;unfold Xp.v;have tT:∀{u u':Hp},Ext T u u'->Ext (pD T xb Qa Qf) u u':=λe=>e.sub λb j=>.inl j;have tX:∀{u u':Hp},Ext (· = xb) u u'->Ext (pD T xb Qa Qf) u u':=λe=>e.sub λb j=>.inr (.inl j);have tA:∀{u u':Hp},Ext Qa u u'->Ext (pD T xb Qa Qf) u u':=λe=>e.sub λb j=>.inr (.inr (.inl j));have tF:∀{u u':Hp},Ext Qf u u'->Ext (pD T xb Qa Qf) u u':=λe=>e.sub λb j=>.inr (.inr (.inr j));have hxb:=o.b.lt;have h00:=o.p.e.1;refine nw (cs:=uD d) λv hz e j=>bL ((o.om e).b.rS rfl (j.rI rfl (j.rI rfl (j.rI rfl (j.rI rfl (j.rI rfl (j.rI rfl (j.rI rfl (j.rT rfl ?_)))))))));have o1:=o.om e;refine Pd (bS.fW o1.ra) d λN e1=>?_;have o2:=o1.om e1;have A:=e.trans e1;have zv:U.size<=N.size:=A.1;have z:=e1.bV j id;have E:=Tz (ad:=ad) di;generalize hx:sL ad d=ax at E hR;have a0:ad++Option.toList (none:Option Int)=ad:=by simp
 have f0:fd++Option.toList (none:Option Int)=fd:=by simp
 have same:∀e w,(e=0->d.kd≠40/\d.kd≠41/\d.kd≠42)->aG N w->R e w:=λe w he g=>by
  have B:=o.om (A.trans g);refine hR e w T H x q Qa Qf addrs fl none none ?_ (.same e he) (aG.to (A.trans g)) λ_=>.inl;rw[a0,f0];exact B
 have G:∀e w H' x' q',QO σ0 N w pp gb km fm qb T H' x' q'->jk H x q d ax H' x' q' e none none->R e w:=λe w H' x' q' B out=>by
  obtain⟨T',S,D,F⟩:=B.tb;have o3:=o2.fD D S F;refine hR e w T' H' x' q' Qa Qf addrs fl none none (by rw[a0,f0];exact o3) out ((aG.to A).trans (tT D)) λc Q=>?_;rcases Q with h|h|h|h
  ·exact(F c h).imp .inl λh=>by omega
  ·exact .inl (.inr (.inl h))
  ·exact .inl (.inr (.inr (.inl h)))
  ·exact .inl (.inr (.inr (.inr h)))
 have hnT:¬T U.size:=λhm=>by have:=o.p.lt hm;omega
 obtain⟨L,held,s0,P,Qq,Qr,qs,rs,W,rfl,rfl⟩:=o2.p;refine z.rI rfl (cN (λJ=>?_) λhk0=>?_)
 ·have C:d.kd=40:=by simpa using J
  refine⟨λm=>aG N m,Ext.refl _ _,bL (gL (c:=.p) (y:=some ⟨qb,0,none⟩) (λm e=>e.bV o2.b id) rfl (gL (c:=bO) (y:=d.th) (λm e=>e.bV z id) rfl (gL (c:=bO) (y:=d.a) (λm e=>e.bV z id) rfl (gL (c:=bO) (y:=d.b) (λm e=>e.bV z id) rfl ?_))))⟩;refine IG W gc x0 d.th d.a d.b (λw V g=>?_) (λe w H' V r hw op hl B=>?_) λb w H1 gr hw op B=>?_
  ·exact cD aB (same 1 w (λh=>by cases h) g)
  ·exact cD (by simpa using r) (G e w H' x q B (.full C V r hw op hl))
  ·refine cF rfl ?_;obtain⟨T',S,D,F⟩:=B.tb;have o3:=o2.fD D S F;refine bL (o3.b.rS rfl (xN o3.ra O b.1 λs' u1 M K=>bL (o3.cE M K λu2 Z o5=>?_)));have z3:=D.1;have z4:=M.1;refine hR 0 u2 T' _ _ _ _ Qf s' fl (some b.1) none (by rw[f0];exact o5) (.dX C gr hw op) ((((aG.to A).trans (tT D)).trans (tA M)).trans (tX Z)) λc Q=>?_;rcases Q with h|h|h|h
   ·exact(F c h).imp .inl λh=>by omega
   ·exact .inl (.inr (.inl h))
   ·exact h.imp (λh=>.inr (.inr (.inl h))) λh=>by omega
   ·exact .inl (.inr (.inr (.inr h)))
 have k0:d.kd≠40:=by simpa using hk0
 refine cN (λJ=>?_) λhk1=>?_
 ·have C:d.kd=41:=by simpa using J
  refine bL (o2.b.rP rfl (z.rI rfl ?_));refine HR W gc s hq hrl d.th E (λw r g=>cD (by simpa using r) (same _ w (λh=>absurd h r) g)) λw b H' x' q' hm Y ov B=>cF rfl ?_;obtain⟨T',S,D,F⟩:=B.tb;have o3:=o2.fD D S F;refine bL (o3.b.rS rfl (xN o3.rf O ax λs' u1 M K=>bL (o3.CQ M K λu2 Z o5=>?_)));have z3:=D.1;have z4:=M.1;refine hR 0 u2 T' _ _ _ Qa _ addrs s' none (some ax) (by rw[a0];exact o5) (.kV C hm Y ov) ((((aG.to A).trans (tT D)).trans (tF M)).trans (tX Z)) λc Q=>?_;rcases Q with h|h|h|h
  ·exact(F c h).imp .inl λh=>by omega
  ·exact .inl (.inr (.inl h))
  ·exact .inl (.inr (.inr (.inl h)))
  ·exact h.imp (λh=>.inr (.inr (.inr h))) λh=>by omega
 have k1:d.kd≠41:=by simpa using hk1
 refine cN (λJ=>?_) λhk2=>?_
 ·have C:d.kd=42:=by simpa using J
  refine⟨λm=>aG N m,Ext.refl _ _,bL (gL (c:=.p) (y:=some ⟨qb,0,none⟩) (λm e=>e.bV o2.b id) rfl (gL (c:=bO) (y:=d.th) (λm e=>e.bV z id) rfl ?_))⟩;exact Dq W gc s d.th (λw r g=>same _ w (λh=>absurd h r) g) λw H' x' q' Y dr B=>G 0 w H' x' q' B (.drain C Y dr)
 have k2:d.kd≠42:=by simpa using hk2
 have X:d.kd≠40/\d.kd≠41/\d.kd≠42:=⟨k0,k1,k2⟩;refine cN (λ_=>bL (o2.b.rP rfl (JL W s ax E.2 (λw _ g=>same 9 w (λh=>by cases h) g) (λe w _ _ g _=>same e w (λ_=>X) g) λw _ g _=>same _ w (λ_=>X) g))) λ_=>?_;refine cN (λJ=>bL (o2.b.rP rfl (z.rI rfl (Wiw W gc s ax d.va E.2 (λw _ g=>same 9 w (λh=>by cases h) g) (λe w _ _ g _=>same e w (λ_=>X) g) λw ht wd B=>G _ w _ x q B (.wrote (by simpa using J) ht wd))))) λ_=>same 0 N (λ_=>X) (Ext.refl _ _)
end Go.Ar
namespace Go.Ar
open Go Go.Vc Go.Proofs
open Go.Vc (bU dA cO)
variable {thread:Int}{H H' H1 H2:Hw}{held held1:List Pc}{s0 s1 sp:Sp}{x y x' x1 x2:Gu}{b:B5}{q q' q1 q2:Qu}{ad fd:List Int}{W:Int->List Int}{l l':List P2}{d:fo}{a:Int}{bl by':Int}
theorem Ey {α:Type}:∀{l:List (Int×α)} {a:Int} {b:α},(l.map (·.1)).Nodup->(a,b)∈l->(cO l a).length+1=l.length
 | [],_,_,_,h=>by simp at h
 | y::l,a,b,hn,h=>by
  rw[zR,zr]at hn;show((y::l).filter λz=>!(z.1==a)).length+1=_;rcases zW.1 h with rfl|h
  ·rw[vq aA,qH.2 λz hz=>?_,zS];have:z.1≠a:=λe=>hn.1 (zE.2 ⟨z,hz,e⟩);simpa using this
  ·have d:y.1≠a:=λe=>hn.1 (by rw[e];exact zE.2 ⟨(a,b),h,rfl⟩);rw[vn (by simpa using d),zS,zS];exact congrArg (· + 1) (Ey hn.2 h)
theorem Rk (g:dR H x)(g':dR H' x')(hi:HI H held s0)(hi':HI H' held1 s1){e:Int×B5}(he:e∈x.kn)(k:Kept H x H' x' e):sH H'.sp e.2=sH H.sp e.2:=by
 unfold sH;refine vX λz a=>?_;rw[g.acc hi he (.inr a),g'.acc hi' k.1 (.inr a),k.2 z a]
theorem Kept.trans {e:Int×B5}(h:Kept H x H1 x1 e)(h':Kept H1 x1 H2 x2 e):Kept H x H2 x2 e:=⟨h'.1,λz a=>(h'.2 z a).trans (h.2 z a)⟩
theorem Kept.refl {e:Int×B5}(h:e∈x.kn):Kept H x H x e:=⟨h,λ_ _=>rfl⟩
structure KQ (W:Int->List Int) (H:Hw) (x:Gu) (l:List P2):Prop where
 g:dR H x
 k:∀e∈l,∃b,bU x.kn e.1=some b/\e.2=b.2.1/\sH H.sp b=W e.1
 nd:(l.map (·.1)).Nodup
theorem KQ.step (kq:KQ W H x l)(hi:HI H held s0)(hi':HI H' held1 s1)(g':dR H' x')(hk:∀e∈x.kn,e.1∈l.map (·.1)->Kept H x H' x' e):KQ W H' x' l:=⟨g',λe i=>by
 obtain⟨b,p,m,j⟩:=kq.k e i;have a:=Z8 p;have d:=hk (e.1,b) a (zE.2 ⟨e,i,rfl⟩);exact⟨b,Z6 g'.nd d.1,m,by rw[←j];exact Rk kq.g g' hi hi' a d⟩,kq.nd⟩
theorem KQ.tail {e:P2}(kq:KQ W H x (e::l)):KQ W H x l:=⟨kq.g,λk a=>kq.k k (mg _ a),(zr.1 kq.nd).2⟩
def ly (W:Int->List Int)(l:List P2):List P2:=l.flatMap λe=>if W e.1=[]then[]else[(e.1,lE (W e.1))]
theorem Tx (l l':List P2):ly W (l++l')=ly W l++ly W l':=by simp[ly]
structure ox (W:Int->List Int) (thread:Int) (H:Hw) (x:Gu) (q:Qu) (H':Hw) (x':Gu) (q':Qu):Prop where
 hi:∃held' s0',HI H' held' s0'
 rd:ZA H' thread=0
 kp:QW H' H
 kq:KQ W H' x' q'.q
 bb:q'.bl=q.bl/\q'.by'=q.by'
 no:x'.no=x.no
 kn:x'.kn.length+q.q.length=x.kn.length+q'.q.length
 sf:∃l,q.q=l++q'.q/\(∀k∈x.kn,k.1∉l.map (·.1)->Kept H x H' x' k)/\q'.rs=q.rs++ly W l
theorem ox.refl (kq:KQ W H x q.q)(hi:HI H held s0)(hrd:ZA H thread=0):ox W thread H x q H x q:=
 ⟨⟨held,s0,hi⟩,hrd,QW.refl _,kq,⟨rfl,rfl⟩,rfl,rfl,[],rfl,λk a _=>Kept.refl a,by simp[ly]⟩
theorem ox.trans (a:ox W thread H x q H1 x1 q1)(c:ox W thread H1 x1 q1 H2 x2 q2):ox W thread H x q H2 x2 q2:=by
 obtain⟨l,r,m,i⟩:=a.sf;obtain⟨p,g,k2,k3⟩:=c.sf;refine⟨c.hi,c.rd,a.kp.trans c.kp,c.kq,⟨c.bb.1.trans a.bb.1,c.bb.2.trans a.bb.2⟩,c.no.trans a.no,by have:=a.kn;have:=c.kn;omega,l++p,by rw[r,g,zk],λk j b=>?_,by rw[k3,i,Tx,zk]⟩;rw[zm,zM]at b;have d:=m k j λh=>b (.inl h);exact d.trans (k2 k d.1 λh=>b (.inr h))
theorem KQ.ck (kq:KQ W H x l)(hi:HI H held s0){e:P2}(he:e∈l):kZ H x e.1=0:=by
 obtain⟨b,a,_,_⟩:=kq.k e he;unfold kZ;rw[a];simp only;rw[kq.g.lost hi (Z8 a)];rfl
theorem gG.st (r:gG thread H x q H' x' q')(kq:KQ W H x q.q)(hi:HI H held s0)(hcf:iS H)(hrd:ZA H thread=0):ox W thread H x q H' x' q':=by
 cases r with
 | none h1 h2=>
  rename_i e r;have j:e∈q.q:=by rw[h1];exact mD
  obtain⟨b,m,_,_⟩:=kq.k e j;rcases h2 with h2|h2
  ·rw[m]at h2;cases h2
  ·exact absurd (kq.ck hi j) h2
 | stay h1 h2 h3 h4=>
  refine absurd ?_ h4;unfold lQ;rw[zB (by rw[hrd];decide),h2];simp only;rw[kq.g.lost hi (Z8 h2)];rfl
 | free h1 h2 h3 h4 hw op fe=>
  rename_i e r b er;have j:e∈q.q:=by rw[h1];exact mD
  obtain⟨D,m,E,C⟩:=kq.k e j;rw[h2]at m;cases m;obtain⟨A,z⟩:=kq.g.free hi h2 hw op fe hrd hcf.2.1;obtain⟨d,s1,i⟩:=op.hi;have a:=Z8 h2;have u:e.1∉r.map (·.1):=by
   have:=kq.nd;rw[h1,zR,zr]at this;exact this.1
  have p:Kq H b=W e.1:=by
   unfold Kq;rw[kq.g.broken hi a,C];rfl
  refine⟨⟨d,s1,i⟩,?_,op.kp,?_,⟨rfl,rfl⟩,rfl,?_,[e],?_,λk s B=>z k s λh=>B (by simp[h]),?_⟩
  ·rw[Ns op];exact hrd
  ·have y:KQ W H x r:=by rw[h1]at kq;exact kq.tail
   exact y.step hi i A λk s w=>z k s λh=>u (h▸w)
  ·have:=Ey kq.g.nd a;show(cO x.kn e.1).length+q.q.length=x.kn.length+r.length;rw[h1,zS];omega
  ·rw[h1];rfl
  ·show(if Kq H b=[]then q.rs else q.rs++[(e.1,lE (Kq H b))])=_
   rw[p];simp only[ly,pE,List.flatMap_nil,kD];split<;>simp
theorem iJ.st (r:iJ thread H x q H' x' q')(kq:KQ W H x q.q)(hi:HI H held s0)(hcf:iS H)(hrd:ZA H thread=0):ox W thread H x q H' x' q'/\UU q'=false:=by
 induction r generalizing held s0 with
 | stop h=>exact⟨ox.refl kq hi hrd,h⟩
 | next h f _ ih=>
  have s1:=f.st kq hi hcf hrd;obtain⟨a,g,b⟩:=s1.hi;obtain⟨s2,d⟩:=ih s1.kq b (hcf.bT s1.kp) s1.rd;exact⟨s1.trans s2,d⟩
theorem iB.st (r:iB thread H x q H' x' q')(kq:KQ W H x q.q)(hi:HI H held s0)(hcf:iS H)(hrd:ZA H thread=0):ox W thread H x q H' x' q'/\q'.q=[]:=by
 induction r generalizing held s0 with
 | stop h=>exact⟨ox.refl kq hi hrd,h⟩
 | next f _ ih=>
  have s1:=f.st kq hi hcf hrd;obtain⟨a,g,b⟩:=s1.hi;obtain⟨s2,d⟩:=ih s1.kq b (hcf.bT s1.kp) s1.rd;exact⟨s1.trans s2,d⟩
theorem dR.IJ (g:dR H x)(hi:HI H held s0)(hm:(a,b)∈x.kn):dR (dP H b) x/\(∀e∈x.kn,e.1≠a->Kept H x (dP H b) x e)/\sH (dP H b).sp b=[]:=by
 have s:=(g.i _ hm).2;have m:=DU s;have p:∀e∈x.kn,∀z,(z∈Ze e.2\/z∈XO e.2)->(e.1=a->z∈Ze e.2)->QV (dP H b).sp z=QV H.sp z:=λe j z d u=>by
  obtain⟨⟨w,rfl⟩,B,A⟩:=(g.i e j).2.word d;show QV (iL H.sp (XO b) λ_=>Ga) _=_;rw[KN m,zB];rintro⟨hw,_⟩;have r:=s.word (.inr hw);have:=g.apart hi j hm B A r.2.1 r.2.2;subst this;exact s.nw (u rfl) hw
 obtain⟨s1,y⟩:∃s1,HI (dP H b) held s1:=HI.iL _ _ hi;have E:dR (dP H b) x:=⟨g.live,λe j z d=>by rw[p e j z (.inl d) λ_=>d];exact g.can e j z d,g.ph,g.i,g.nd⟩;refine⟨E,λe j D=>⟨j,λz d=>p e j z (.inr d) λh=>absurd h D⟩,?_⟩;unfold sH;rw[List.filter_eq_nil_iff];intro z d;rw[E.acc y hm (.inr d)];obtain⟨⟨w,rfl⟩,B,A⟩:=s.word (.inr d);have C:=g.map hi hm B A;have:QV (dP H b).sp ((8*w:Nat):Int)=Ga:=by
  show QV (iL H.sp (XO b) λ_=>Ga) _=_;rw[KN m,zC ⟨d,C⟩]
 rw[this];simp
abbrev W0:Int->List Int:=λ_=>[]
theorem FE (l:List P2):ly W0 l=[]:=by simp[ly]
structure AQ (bl by':Int) (H:Hw) (x:Gu) (q:Qu) (ad fd:List Int):Prop where
 kq:KQ W0 H x q.q
 n0:0<=x.no
 nl:(ad.length:Int)<=x.no
 rs:q.rs=[]
 ov:UU q=false
 sx:∃l,fd=l++q.q.map (·.1)
 wu:x.kn.length+fd.length=ad.length+q.q.length
 th:1<=H.cf.threads
 bb:q.bl=bl/\q.by'=by'
theorem AQ.lens (al:AQ bl by' H x q ad fd):q.q.length<=fd.length/\x.kn.length<=ad.length:=by
 obtain⟨l,h⟩:=al.sx;have a:=congrArg List.length h;rw[zK,zj]at a;have:=al.wu;omega
theorem AQ.ql (al:AQ bl by' H x q ad fd)(hi:nK q):q.q.length<=64:=by
 have h:=al.ov;unfold UU at h;rw[xm,decide_eq_false_iff_not,decide_eq_false_iff_not]at h;have:=hi.bl;omega
theorem AQ.qs (al:AQ bl by' H x q ad fd)(hi:nK q)(h:ad.length<=1000):QS x q:=⟨al.kq.g.i,by have:=al.lens;omega,λe a=>by
 obtain⟨b,d,_,_⟩:=al.kq.k e a;have h:e.1=b.1/\gS b:=al.kq.g.i _ (Z8 d);have y:=h.1;have r:=h.2.z;have p:=h.2.base;have j:=h.2.t;have u:=h.2.m;have w:=h.2.s;have A:=ZS (n:=b.2.1) O;unfold jx;omega,by rw[al.rs];have:=al.ql hi;simp;omega⟩
theorem Iy {addr:Int}(hm:bU x.kn addr=some b)(h:mQ H x q thread addr=0):ZA H thread=0/\addr∉q.q.map (·.1):=by
 unfold mQ at h;by_cases h1:ZA H thread=0
 ·refine⟨h1,λa=>?_⟩;rw[zB (by rw[h1];decide),zC a]at h;cases h
 ·rw[zC h1]at h;exact absurd h h1
theorem AQ.out (al:AQ bl by' H x q ad fd)(hi:HI H held s0)(cf:iS H)(qi:nK q){e:Int}{add del:Option Int}(o:jk H x q d a H' x' q' e add del):AQ bl by' H' x' q' (ad++add.toList) (fd++del.toList)/\x'.no<=x.no+1:=by
 have F:ad++Option.toList (none:Option Int)=ad:=by simp
 have E:fd++Option.toList (none:Option Int)=fd:=by simp
 have g:=al.kq.g;cases o with
 | same e j=>rw[F,E];exact⟨al,O⟩
 | full hk hgk hne hw op hl=>
  rw[F,E];obtain⟨w,J⟩:=g.same hi op hl;obtain⟨r,s1,m⟩:=op.hi;exact⟨⟨al.kq.step hi m w λe j _=>J e j,al.n0,al.nl,al.rs,al.ov,al.sx,al.wu,by rw[op.kp.2.1];exact al.th,al.bb⟩,O⟩
 | dX hk gr hw op=>
  rename_i b H1;rw[E];obtain⟨r,s1,m⟩:=op.hi;obtain⟨w,gk,S,_,_⟩:=g.dX hi gr op m;have V:(x.dX b).no=x.no+1:=rfl;have M:∃s2,HI {H1 with sp:=jT H1.sp b} r s2:=by
   obtain⟨s2,N⟩:=HI.iL jv (Ze b) m;exact HI.iL (λ_=>0) (XO b) N
  obtain⟨s2,P⟩:=M;refine⟨⟨al.kq.step hi P w λe j _=>S e j,by have:=al.n0;omega,?_,al.rs,al.ov,al.sx,?_,by show 1<=H1.cf.threads;rw[op.kp.2.1];exact al.th,al.bb⟩,O⟩
  ·rw[V,zK];have:=al.nl;simp;omega
  ·rw[gk,zK,zK];have:=al.wu;simp;omega
 | kV hk K hf ov=>
  rename_i b;rw[F];obtain⟨z,A⟩:=Iy K hf;have D:=Z8 K;obtain⟨w,J,S⟩:=g.IJ hi D;obtain⟨s1,B⟩:∃s1,HI (dP H b) held s1:=HI.iL _ _ hi;have L:KQ W0 (dP H b) x (q.q++[(a,b.2.1)]):=by
   have k0:=al.kq.step hi B w λe j y=>J e j λh=>A (h▸y);refine⟨w,λe j=>?_,?_⟩
   ·rcases zM.1 j with j|j
    ·exact k0.k e j
    ·rw[zN]at j;subst j;exact⟨b,K,rfl,S⟩
   ·rw[zm,nr];refine⟨al.kq.nd,by simp,λu hu c hc=>?_⟩;simp only[zR,qh,zN]at hc;subst hc;exact λh=>A (h▸hu)
  have G:ZA (dP H b) d.th=0:=z;obtain⟨st,X⟩:=ov.st L B cf G;obtain⟨l,h1,N,W⟩:=st.sf;have C:=st.kn;simp only[zK,rG]at C;refine⟨⟨st.kq,by rw[st.no];exact al.n0,by rw[st.no];exact al.nl,?_,X,?_,?_,?_,⟨st.bb.1.trans al.bb.1,st.bb.2.trans al.bb.2⟩⟩,by rw[st.no];omega⟩
  ·rw[W,FE,kD];exact al.rs
  ·obtain⟨l2,h4⟩:=al.sx;refine⟨l2++l.map (·.1),?_⟩;rw[h4,zk,zk,←zm,←h1];simp
  ·have:=al.wu;simp only[qz,zK,rG];omega
  ·rw[st.kp.2.1];exact al.th
 | drain hk z dr=>
  rw[F,E];obtain⟨st,s⟩:=dr.st al.kq hi cf z;obtain⟨l,h1,N,W⟩:=st.sf;have C:=st.kn;have Z:=al.lens;refine⟨⟨st.kq,by rw[st.no];exact al.n0,by rw[st.no];exact al.nl,?_,?_,⟨fd,by rw[s];simp⟩,?_,?_,⟨st.bb.1.trans al.bb.1,st.bb.2.trans al.bb.2⟩⟩,by rw[st.no];omega⟩
  ·rw[W,FE,kD];exact al.rs
  ·have Y:=st.bb.1;have U:=st.bb.2;have:=qi.bl;have:=qi.by';unfold UU;rw[s,xm];exact⟨zJ (by rw[Y];simp;omega),zJ (by rw[U];simp[iE];omega)⟩
  ·have:=al.wu;omega
  ·rw[st.kp.2.1];exact al.th
 | wrote hk ht wd=>
  rw[F,E];rcases wd with⟨h,_⟩|⟨k,hk,hin,h8,_⟩
  ·cases h
  ·have R:=g.i k hk;obtain⟨i1,i2⟩:=hin;have hz:a∈XO k.2:=dR.jq R.2 i1 i2 h8;obtain⟨w,J,_⟩:=g.write hi hk hz (v:=d.va);obtain⟨s1,m⟩:∃s1,HI {H with sp:=ZD H.sp a d.va} held s1:=HI.iL (λ_=>d.va) [a] hi;refine⟨⟨al.kq.step hi m w λe j y=>J e j λh=>?_,al.n0,al.nl,al.rs,al.ov,al.sx,al.wu,al.th,al.bb⟩,O⟩;subst h;obtain⟨p,hp,Q⟩:=zE.1 y;have K:bU x.kn p.1=some e.2:=by rw[Q];exact Z6 g.nd (show(e.1,e.2)∈x.kn from j)
   have:UA x q a=true:=by
    unfold UA;rw[zy];exact⟨p,hp,by rw[K];exact zI hz⟩
   rw[ht]at this;cases this
theorem AQ.ready (al:AQ bl by' H x q ad fd):ZA H 0=0:=by
 have b:=al.th;unfold ZA;rw[zB O,UW];have a:(if 0<=(0:Int)/\(0:Int)<(H.bR.length:Int)then fF H (0:Int).toNat else none)=none:=by
  split
  ·exact al.kq.g.ph _
  ·rfl
 rw[a];rfl
end Go.Ar
namespace Go.Ar
open Go Go.Vc Go.Proofs
open Go.Vc (bU dA cO)
variable {thread:Int}{U σ0 v w w':Hp}{F P Q X T Tc:Rg}{L:dE}{H H' H1:Hw}{held:List Pc}{s0 sp:Sp}{t n:Nat}{gb km fm m pp:Nat}{x y x':Gu}{b:B5}{qb:Nat}{Qq Qr:Rg}{qs rs:Sl}{q q':Qu}
theorem gG.uk {e:P2}{r:List P2}{H2:Hw}{e2:Int}(hq:q.q=e::r)(hm:bU x.kn e.1=some b)(hck:kZ H x e.1=0)(hfr:lQ H x thread e.1 false=0)(hw:KG (dP H b) thread 1 0 0 b.2.2.1 H2 0 e2)(h:gG thread H x q H' x' q') :
 H'=H2/\x'=x.gone e.1/\q'=⟨q.bl,q.by',r,if Kq H b=[]then q.rs else q.rs++[(e.1,lE (Kq H b))]⟩:=by
 cases h with
 | none h1 h2=>
  rw[hq]at h1;cases h1;rcases h2 with h2|h2
  ·rw[hm]at h2;cases h2
  ·exact absurd hck h2
 | stay h1 h2 h3 h4=>
  rw[hq]at h1;cases h1;exact absurd hfr h4
 | free h1 h2 h3 h4 hw'=>
  rw[hq]at h1;cases h1;rw[hm]at h2;cases h2;exact⟨(hw'.xX hw).1,rfl,rfl⟩
theorem iJ.mb (h:iJ thread H x q H' x' q')(ho:UU q=false):H'=H/\x'=x/\q'=q:=by
 cases h with
 | stop _=>exact⟨rfl,rfl,rfl⟩
 | next h _ _=>rw[ho]at h;cases h
theorem iJ.ns (h:iJ thread H x q H' x' q')(ho:UU q=true):∃H1 x1 q1,gG thread H x q H1 x1 q1/\iJ thread H1 x1 q1 H' x' q':=by
 cases h with
 | stop h=>rw[ho]at h;cases h
 | next _ h1 h2=>exact⟨_,_,_,h1,h2⟩
theorem iB.mb (h:iB thread H x q H' x' q')(ho:q.q=[]):H'=H/\x'=x/\q'=q:=by
 cases h with
 | stop _=>exact⟨rfl,rfl,rfl⟩
 | next h _=>obtain⟨_,_,_,_,e,a⟩:=h.len;rw[ho]at a;cases a
theorem iB.ns (h:iB thread H x q H' x' q')(ho:q.q≠[]):∃H1 x1 q1,gG thread H x q H1 x1 q1/\iB thread H1 x1 q1 H' x' q':=by
 cases h with
 | stop h=>exact absurd h ho
 | next h1 h2=>exact⟨_,_,_,h1,h2⟩
theorem HB {H:Hw}{th kind size align addr:Int}{k:Hw×Int×Int}{r:Int×Int}(hk:k=(UQ H th kind size align addr).getD (w0,0,99))(h2:k.2=r)(hr:r≠(0,99)):KG H th kind size align addr k.1 r.1 r.2:=by
 subst hk;cases hw:UQ H th kind size align addr with
 | none=>rw[hw]at h2;exact absurd h2.symm hr
 | some s=>
  rw[hw]at h2;have:=IU hw;have e1:s.2=r:=h2;rw[←e1];exact this
def bB:B5:=(4176,24,4160,64,2)
def cB:B5:=(4240,24,4224,64,3)
def k2:Hw×Int×Int:=(UQ vZ 0 0 56 16 0).getD (w0,0,99)
def wP:Hw:={k2.1 with sp:=jT k2.1.sp bB}
def k3:Hw×Int×Int:=(UQ wP 0 0 56 16 0).getD (w0,0,99)
def tJ:Hw:={k3.1 with sp:=jT k3.1.sp cB}
def ι:Gu:=gX.dX bB
def kX:Gu:=ι.dX cB
def uN:Hw:=dP tJ gB
def sY:Hw:=dP uN bB
def sy:Hw:=dP sY cB
def k4:Hw×Int×Int:=(UQ (dP sy gB) 0 1 0 0 4096).getD (w0,0,99)
def ru:Hw:={k4.1 with sp:=ZD k4.1.sp 4176 3}
def k6:Hw×Int×Int:=(UQ (dP ru bB) 0 1 0 0 4160).getD (w0,0,99)
def k7:Hw×Int×Int:=(UQ (dP k6.1 cB) 0 1 0 0 4224).getD (w0,0,99)
theorem xY:k2.2=(4160,0)/\Kt k2.1 4160=some 64:=by decide +kernel
theorem xQ:k3.2=(4224,0)/\Kt k3.1 4224=some 64:=by decide +kernel
abbrev q0:Qu:=⟨2,1000,[],[]⟩
abbrev q1:Qu:=⟨2,1000,[(4112,24)],[]⟩
abbrev q2:Qu:=⟨2,1000,[(4112,24),(4176,24)],[]⟩
abbrev q3:Qu:=⟨2,1000,[(4112,24),(4176,24),(4240,24)],[]⟩
abbrev q4:Qu:=⟨2,1000,[(4176,24),(4240,24)],[]⟩
theorem BA:mQ tJ kX q0 0 4112=0:=by decide +kernel
theorem DA:mQ uN kX q1 0 4176=0:=by decide +kernel
theorem pU:mQ sY kX q2 0 4112=9/\mQ sY kX q2 0 4240=0/\UA kX q2 4112=true:=by decide +kernel
theorem pF:kZ sy kX 4112=0/\lQ sy kX 0 4112 false=0/\Kq sy gB=[]/\k4.2=(0,0):=by decide +kernel
abbrev vQ:Gu:=kX.gone 4112
theorem BC:eO k4.1.sp 4176=0:=by decide +kernel
theorem oU:ZA ru 0=0/\kZ ru vQ 4176=0/\lQ ru vQ 0 4176 false=0/\Kq ru bB=[4176]/\k6.2=(0,0):=by decide +kernel
abbrev Cd:Gu:=vQ.gone 4176
theorem r9:kZ k6.1 Cd 4240=0/\lQ k6.1 Cd 0 4240 false=0/\Kq k6.1 cB=[]/\k7.2=(0,0):=by decide +kernel
theorem Ca:kX.kn=[(4112,gB),(4176,bB),(4240,cB)]:=by decide +kernel
theorem xg:∀e∈kX.kn,e.1=e.2.1/\gS e.2:=λe a=>by
 rw[Ca]at a;simp only[zW,yW,or_false]at a;rcases a with rfl|rfl|rfl<;>exact⟨rfl,⟨by decide,by decide⟩,⟨by decide,by decide⟩,⟨by decide,by decide,by decide⟩,⟨by decide,by decide⟩,by decide⟩
theorem oR {q:Qu}(h1:∀e∈q.q,0<=e.1/\e.1<=5000)(h2:q.rs.length+q.q.length<=9000):QS kX q:=⟨xg,by rw[Ca];decide,λe a=>by have:=h1 e a;exact⟨O,O⟩,h2⟩
theorem SS {q:Qu}(h1:∀e∈q.q,0<=e.1/\e.1<=5000)(h2:q.rs.length+q.q.length<=9000):QS vQ q:=⟨λe a=>xg e (zL.1 (show e∈cO kX.kn 4112 from a)).1,kr (pN _ _) (by rw[Ca];decide),λe a=>by have:=h1 e a;exact⟨O,O⟩,h2⟩
theorem rk:bU kX.kn 4112=some gB/\bU kX.kn 4176=some bB/\bU kX.kn 4240=some cB:=by decide +kernel
theorem Sf:bU vQ.kn 4176=some bB:=by decide +kernel
theorem Sk:bU Cd.kn 4240=some cB:=by decide +kernel
attribute [local irreducible] w0 gm vZ k2 wP k3 tJ uN sY sy k4 ru k6 k7
theorem PV:vZ = {gm.1 with sp:=jT gm.1.sp gB}:=by unfold vZ;rfl
theorem PK:wP = {k2.1 with sp:=jT k2.1.sp bB}:=by unfold wP;rfl
theorem MO:tJ = {k3.1 with sp:=jT k3.1.sp cB}:=by unfold tJ;rfl
theorem PA:uN=dP tJ gB:=by unfold uN;rfl
theorem PU:sY=dP uN bB:=by unfold sY;rfl
theorem Ta:sy=dP sY cB:=by unfold sy;rfl
theorem N2:ru = {k4.1 with sp:=ZD k4.1.sp 4176 3}:=by unfold ru;rfl
theorem De:KG vZ 0 0 56 16 0 k2.1 4160 0:=HB (by unfold k2;rfl) xY.1 aB
theorem Bo:KG wP 0 0 56 16 0 k3.1 4224 0:=HB (by unfold k3;rfl) xQ.1 aB
theorem CW:KG (dP sy gB) 0 1 0 0 4096 k4.1 0 0:=HB (by unfold k4;rfl) pF.2.2.2 aB
theorem BJ:KG (dP ru bB) 0 1 0 0 4160 k6.1 0 0:=HB (by unfold k6;rfl) oU.2.2.2.2 aB
theorem Dy:KG (dP k6.1 cB) 0 1 0 0 4224 k7.1 0 0:=HB (by unfold k7;rfl) r9.2.2.2 aB
theorem qM (o:QP σ0 U L H held s0 P gb km fm x qb Qq Qr qs rs q)(gc:Gc σ0)(hno:0<=x.no/\x.no<=100000){b:B5}{H1:Hw}(hw:KG H 0 0 56 16 0 H1 b.2.2.1 0)(hu:Kt H1 b.2.2.1=some b.2.2.2.1)(hb:b.1=b.2.2.1+16/\b.2.1=24/\b.2.2.2.2=x.no+1){R:Int->Int->Hp->Prop}
 (hR:∀w,QO σ0 U w L.p gb km fm qb (ku P gb km fm qb Qq Qr) {H1 with sp:=jT H1.sp b} (x.dX b) q->R b.1 0 w):Wp.c (aW qb) 0 24 8 U R:=by
 refine IG o gc hno 0 24 8 (λw y=>absurd y aB) (λe w H' _ m d=>?_) λc w H2 j d op A=>?_
 ·exact absurd (d.xX hw).2.2 m
 ·obtain⟨rfl,g,_⟩:=d.xX hw;have z:c=b:=by
   have i:=j.u;rw[g,hu]at i;have r:=j.a;rw[g]at r;exact Prod.ext (r.trans hb.1.symm) (Prod.ext (j.s.trans hb.2.1.symm) (Prod.ext g (Prod.ext (Option.some.inj i).symm (j.n.trans hb.2.2.symm))))
  subst z;exact hR w A
set_option maxRecDepth 16000 in
theorem GI (gl:Gl U)(gc:Gc U){R:aO}(hR:∀σ',aG U σ'->R true σ'):XA.c U R:=by
 refine XA.o ?_;unfold XA.v;refine Ox gl gc.gd λv L N e hsN hNv h0=>cD rfl ?_;have hn:=RC;have hc0:w0.cf.aF=64:=by have:=hn.pg;omega
 refine F4 e h0.cut hn.hi hn.cf O (λb hb=>⟨by have:N<=b:=hb.1;omega,hb.2⟩) (Cm gl gc.gd) λw gb Y fm e1 _ p=>?_;refine Lo p 2 1000 (λh=>absurd h aB) λ_ w1 e2 o=>?_;generalize w.size=qb at o;refine bX.intro (cD rfl (cD rfl ?_));refine qM (b:=gB) o gc ⟨by decide,by decide⟩ Bq CM ⟨by decide,by decide,by decide⟩ λw2 a=>?_;obtain⟨L1,held1,s1,P1,Qq1,Qr1,qs1,rs1,o1,hp1, -, -⟩:=a;rw[←PV]at o1;refine qM (b:=bB) o1 gc ⟨by decide,by decide⟩ De xY.2 ⟨by decide,by decide,by decide⟩ λw3 a=>?_;obtain⟨L2,held2,s2,P2,Qq2,Qr2,qs2,rs2,o2,kB, -, -⟩:=a;rw[←PK]at o2;refine qM (b:=cB) o2 gc ⟨by decide,by decide⟩ Bo xQ.2 ⟨by decide,by decide,by decide⟩ λw4 a=>?_;obtain⟨L3,x,s3,P3,Qq3,Qr3,qs3,rs3,o3,hp3, -, -⟩:=a;rw[←MO]at o3;have o3:QP U w4 L3 tJ x s3 P3 gb Y fm kX qb Qq3 Qr3 qs3 rs3 q0:=o3;show Wj.c (aW qb) 0 4112 w4 _;refine HR o3 gc (oR (λe he=>by simp at he) aB) aB aB 0 ⟨by decide,by decide⟩ (λw h=>absurd BA h) λw5 b H1 x1 s i _ m a=>?_;rw[rk.1]at i;cases i;obtain⟨rfl,rfl,rfl⟩:=m.mb aB;obtain⟨L5,u,s5,P5,Qq5,Qr5,qs5,rs5,o5,hp5, -, -⟩:=a;rw[←PA]at o5;have o5:QP U w5 L5 uN u s5 P5 gb Y fm kX qb Qq5 Qr5 qs5 rs5 q1:=o5;refine bX.intro (cD rfl ?_);show Wj.c (aW qb) 0 4176 w5 _;refine HR o5 gc (oR aB aB) aB aB 0 ⟨by decide,by decide⟩ (λw h=>absurd DA h) λw6 b H1 x1 s i _ m a=>?_;rw[rk.2.1]at i;cases i;obtain⟨rfl,rfl,rfl⟩:=m.mb aB;obtain⟨L6,y,s6,P6,Qq6,Qr6,qs6,rs6,o6,hp6, -, -⟩:=a;rw[←PU]at o6;have o6:QP U w6 L6 sY y s6 P6 gb Y fm kX qb Qq6 Qr6 qs6 rs6 q2:=o6;refine bX.intro (cD rfl ?_);refine Ax o6 λsl w7 Q7 e7 hs7 hQ7=>?_;have o7:=o6.fr e7;refine nw (cs:=[.int .i64 4112,.int .i64 4176]) λw8 hz8 e8 b8=>?_;have o8:=o7.fr e8;have hs8:=aI.bP hs7 e8;have ht8:cV ⟨some ⟨w7.size,0,none⟩,2,2⟩ 1 (Wu [4112,4176]) w8 (· = w7.size):=b8.fW rfl rfl λj hj=>by rw[zH];rfl
 refine HY (bS.fW hs8) ht8 aB ?_;refine bX.intro (cD aB ?_);refine DW o8 λw9 e9=>?_;have o9:=o8.fr e9;refine bX.intro (cD aB ?_);show Wj.c (aW qb) 0 4112 w9 _;refine HR o9 gc (oR aB aB) aB aB 0 ⟨by decide,by decide⟩ (λw10 _ e10=>?_) λw b H1 x1 s i h=>by rw[pU.1]at h;exact absurd h aB
 rw[pU.1];have gC:=o9.fr e10;refine cD aB ?_;show WF.c (aW qb) 4112 w10 _;refine JL gC (oR aB aB) 4112 aB (λw11 _ e11=>?_) (λe w h=>by rw[pU.2.2]at h;cases h) λw h=>by rw[pU.2.2]at h;cases h
 have o11:=gC.fr e11;refine bX.intro (cD aB ?_);show Wj.c (aW qb) 0 4240 w11 _;refine HR o11 gc (oR aB aB) aB aB 0 ⟨by decide,by decide⟩ (λw h=>absurd pU.2.1 h) λw12 b H1 x1 s i _ m a=>?_;rw[rk.2.2]at i;cases i;rw[←Ta]at m;obtain⟨H2,x2,q2',fr,m⟩:=m.ns aB;obtain⟨rfl,rfl,rfl⟩:=fr.uk (b:=gB) rfl rk.1 pF.1 pF.2.1 CW;obtain⟨rfl,rfl,rfl⟩:=m.mb (by rw[zC pF.2.2.1];decide);rw[zC pF.2.2.1]at a;obtain⟨L12,d,s12,P12,Qq12,Qr12,M,H,g,D, -, -⟩:=a;have g:QP U w12 L12 k4.1 d s12 P12 gb Y fm vQ qb Qq12 Qr12 M H q4:=g;refine bX.intro (cD rfl ?_);refine Ax g λsl C Q13 e13 Q hQ13=>?_;have o13:=g.fr e13;refine nw (cs:=[.int .i64 4176,.int .i64 4240]) λw14 hz14 S b14=>?_;have E:=o13.fr S;have J:=aI.bP Q S;have W:cV ⟨some ⟨C.size,0,none⟩,2,2⟩ 1 (Wu [4176,4240]) w14 (· = C.size):=b14.fW rfl rfl λj hj=>by rw[zH];rfl
 refine HY (bS.fW J) W aB ?_;refine bX.intro (cD aB ?_);have hp:L.p=L12.p:=by rw[D,hp6,hp5,hp3,kB,hp1]
 rw[hp];refine E.p.write gc 4176 3 aB λw15 s15 P15 e15 p15 P=>?_;have K:=E.fD (e15.sub λc hc=>.inl hc) p15 P;rw[BC];rw[←N2]at K;refine cD aB ?_;refine Dq K gc (SS aB aB) 0 (λw h=>absurd oU.1 h) λw16 H3 x3 q3' _ r a=>?_;obtain⟨H4,x4,q4',fr,r⟩:=r.ns aA;obtain⟨rfl,rfl,rfl⟩:=fr.uk (b:=bB) rfl Sf oU.2.1 oU.2.2.1 BJ;rw[oU.2.2.2.1]at r;obtain⟨H5,x5,q5',fr,r⟩:=r.ns aA;obtain⟨rfl,rfl,rfl⟩:=fr.uk (b:=cB) rfl Sk r9.1 r9.2.1 Dy;rw[zC r9.2.2.1]at r;obtain⟨rfl,rfl,rfl⟩:=r.mb rfl;obtain⟨L16,Z,S6,P16,Qq16,Qr16,qs16,rs16,A,hp16, -, -⟩:=a;refine bX.intro (cF aB (bX.intro (cF rfl ?_)));refine RR A λsl V Q17 e17 G hQ17=>?_;have o17:=A.fr e17;refine nw (cs:=[.int .i64 4176,.int .i64 4176]) λB hz18 X b18=>?_;have o18:=o17.fr X;have z:=aI.bP G X;have F:cV ⟨some ⟨V.size,0,none⟩,1,1⟩ 2 (gO [(4176,4176)]) B (· = V.size):=b18.fW rfl rfl λj hj=>by rw[zH];rfl
 refine Tq (bS.fW z) F aB (λ_=>?_) rfl;exact hR B o18.p.e
end Go.Ar
namespace Go.Ar
open Go Go.Vc Go.Proofs
open Go.Vc (bU dA cO)
variable {thread:Int}{U σ0 v w w':Hp}{F P Q X T T' Tc Qa Qf:Rg}{L:dE}{H H' H1:Hw}{held:List Pc}{s0 sp:Sp}{t n:Nat}{gb km fm m pp xb:Nat}{x y x':Gu}{b:B5}{qb:Nat}{Qq Qr:Rg}{qs rs addrs fl l:Sl}{ad fd:List Int}{q q':Qu}{ds:List fo}{bl by':Int}
set_option maxRecDepth 8000 in
theorem NQ (e00:aG σ0 U)(gl:Gl σ0)(gc:Gc σ0)(b b1 b2 b3 b4 b5 W9 bytes:Int){R:Option Addr->Hp->Prop}(h0:∀σ',aG U σ'->R none σ')
 (h1:∀σ' xb pp gb km fm qb T H x q addrs fl,OQ σ0 σ' xb pp gb km fm qb T (λ_=>False) (λ_=>False) H x q addrs [] fl []->AQ W9 bytes H x q [] []->x.no=0->q.q=[]->aG U σ'->R (some ⟨xb,0,none⟩) σ'):X6.c b b1 b2 b3 b4 b5 W9 bytes U R:=by
 refine X6.o ?_;unfold X6.v;refine nw (cs:=[.int .i64 b,.int .i64 b1,.int .i64 b2,.int .i64 b3,.int .i64 b4,.int .i64 b5]) λv Z e a=>a.rI rfl (a.rI rfl (a.rI rfl (a.rI rfl (a.rI rfl (a.rI rfl (W8.o ?_))))));unfold W8.v;refine nw (cs:=[.int .i64 b,.int .i64 b1,.int .i64 b2,.int .i64 b3,.int .i64 b4,.int .i64 b5]) λG J e1 z=>z.fM rfl ?_;have d:=e.trans e1;have i:=e1.bV a id;refine cP (λ_=>h0 G d) λE=>?_;refine i.rI rfl (i.rI rfl (i.rI rfl (i.rI rfl (i.rI rfl (i.rI rfl ?_)))));refine OF (gl.bP (e00.trans d)) (gc.bP (e00.trans d)).gd b b1 b2 b3 b4 b5 (λB e2=>cF rfl (h0 B (d.trans e2))) λB L0 N H0 e2 F Y W m=>cD rfl ?_;have u:=(e00.trans d).trans e2;have Q:=(e00.trans d).1;refine F4 u W.cut m.hi m.cf (by have:=m.pg;omega) (λb a=>⟨by have:N<=b:=a.1;omega,a.2⟩) (Cm gl gc.gd) λw gb km fm K hm p=>?_;have E3:=(d.trans e2).trans (p.e.trans (Ext.refl _ _) |> λ_=>K);refine Lo p W9 bytes (λ_=>bX.intro (cF rfl (cF rfl (h0 w E3)))) λL S V o=>bX.intro (cD rfl (cD rfl ?_));generalize hqb:w.size=qb at o;refine nw (cs:=AU L0.p qb ⟨none,0,0⟩ ⟨none,0,0⟩) λC M A y=>?_;have o5:=o.fr A;have D:QB σ0 C L0.p gb km fm qb _ H0 pv ⟨W9,bytes,[],[]⟩:=⟨L0,_,_,_,_,_,_,_,o5,rfl,rfl⟩;have s:=o.p.e.1;have X:dR H0 pv:=⟨by rw[m.live];rfl,λe r=>by simp[pv]at r,λj=>by
  unfold fF;cases hj:H0.bR[j]? with
  | none=>rfl
  | some g=>exact m.ph g (zG hj),λe r=>by simp[pv]at r,by simp[pv]⟩
 refine h1 C S.size L0.p gb km fm qb _ H0 pv ⟨W9,bytes,[],[]⟩ _ _ ⟨D,y,⟨rfl,.inl ⟨rfl,rfl⟩⟩,⟨rfl,.inl ⟨rfl,rfl⟩⟩,⟨s,λP=>?_,id,id⟩,λb a=>a.elim,λb a=>a.elim,λb a=>a.elim⟩ ⟨⟨X,λe r=>by simp at r,by simp⟩,by simp[pv],by simp[pv],rfl,?_,⟨[],rfl⟩,rfl,m.th,rfl,rfl⟩ rfl rfl ((E3.trans V).trans A)
 ·have:=JK o P;omega
 ·unfold UU;rw[xm];exact⟨zJ aE,zJ (by simp[iE];omega)⟩
structure PQ (σ0 U:Hp) (W9 bytes:Int) (n:Nat) (xb pp gb km fm qb:Nat) (T Qa Qf:Rg) (H:Hw) (x:Gu) (q:Qu) (addrs:Sl) (ad:List Int) (fl:Sl) (fd:List Int):Prop where
 o:OQ σ0 U xb pp gb km fm qb T Qa Qf H x q addrs ad fl fd
 al:AQ W9 bytes H x q ad fd
 no:x.no<=n
 fn:fd.length<=n
theorem PQ.om (p:PQ σ0 U bl by' n xb pp gb km fm qb T Qa Qf H x q addrs ad fl fd)(e:aG U w):PQ σ0 w bl by' n xb pp gb km fm qb T Qa Qf H x q addrs ad fl fd:=⟨p.o.om e,p.al,p.no,p.fn⟩
theorem PQ.C8 (p:PQ σ0 U bl by' n xb pp gb km fm qb T Qa Qf H x q addrs ad fl fd)(hn:n<=1000):QS x q:=p.al.qs p.o.p.qi (by have:=p.al.nl;have:=p.no;omega)
theorem PQ.Sd (p:PQ σ0 U bl by' n xb pp gb km fm qb T Qa Qf H x q addrs ad fl fd)(gc:Gc σ0)(hn:n<=900)(d:fo)(di:kT d){R:aN}
 (hR:∀e w T' H' x' q' Qa' Qf' addrs' fl' add del,PQ σ0 w bl by' (n+1) xb pp gb km fm qb T' Qa' Qf' H' x' q' addrs' (ad++Option.toList add) fl' (fd++Option.toList del)->jk H x q d (sL ad d) H' x' q' e add del->Ext (pD T xb Qa Qf) U w->(∀b,pD T' xb Qa' Qf' b->pD T xb Qa Qf b\/U.size<=b)->R e w) :
 Xp.c (aW xb) d.kd d.th d.a d.b d.of d.pl d.va d.s U R:=by
 have n0:=p.al.n0;have nl:=p.al.nl;have u:=p.no;have z:=p.fn;have A:=p.al.ql p.o.p.qi;refine Rj p.o gc (p.C8 O) ⟨n0,O⟩ O (by rw[p.al.rs,k9];omega) O O d di λe w T' H' x' q' Qa' Qf' addrs' fl' add del r out m y=>?_;obtain⟨j,s0,hi⟩:=p.o.p.hi;obtain⟨g,i⟩:=p.al.out hi p.o.p.cf p.o.p.qi out;refine hR e w T' H' x' q' Qa' Qf' addrs' fl' add del ⟨r,g,O,?_⟩ out m y;rw[zK];cases del<;>simp<;>omega
theorem PQ.mono {k:Nat}(p:PQ σ0 U bl by' n xb pp gb km fm qb T Qa Qf H x q addrs ad fl fd)(h:n<=k):PQ σ0 U bl by' k xb pp gb km fm qb T Qa Qf H x q addrs ad fl fd:=⟨p.o,p.al,by have:=p.no;omega,by have:=p.fn;omega⟩
end Go.Ar
namespace Go.Proofs
open Go.Vc
set_option maxRecDepth 100000
end Go.Proofs
namespace Go.Ar
open Go Go.Vc Go.Proofs
open Go.Vc (bU dA cO)
variable {thread a bl by':Int}{U σ0 v w w':Hp}{F P Q X T T' Tc Qa Qf:Rg}{L:dE}{H H' H1:Hw}{held:List Pc}{s0 sp:Sp}{t n:Nat}{gb km fm m pp xb:Nat}{x y x':Gu}{b:B5}{qb:Nat}{Qq Qr:Rg}{qs rs addrs fl l:Sl}{ad fd:List Int}{q q':Qu}{ds:List fo}
theorem KQ.free (kq:KQ W0 H x q.q)(hi:HI H held s0)(cf:iS H)(hm:bU x.kn a=some b)(hf:mQ H x q thread a=0)(ov:iJ thread (dP H b) x {q with q:=q.q++[(a,b.2.1)]} H' x' q') :
 ox W0 thread (dP H b) x {q with q:=q.q++[(a,b.2.1)]} H' x' q'/\UU q'=false/\∀e∈x.kn,e.1≠a->Kept H x (dP H b) x e:=by
 obtain⟨s,i⟩:=Iy hm hf;have m:=Z8 hm;obtain⟨z,A,B⟩:=kq.g.IJ hi m;obtain⟨s1,j⟩:∃s1,HI (dP H b) held s1:=HI.iL _ _ hi;have p:KQ W0 (dP H b) x (q.q++[(a,b.2.1)]):=by
  have D:=kq.step hi j z λe d r=>A e d λh=>i (h▸r);refine⟨z,λe d=>?_,?_⟩
  ·rcases zM.1 d with d|d
   ·exact D.k e d
   ·rw[zN]at d;subst d;exact⟨b,hm,rfl,B⟩
  ·rw[zm,nr];refine⟨kq.nd,by simp,λu C c y=>?_⟩;simp only[zR,qh,zN]at y;subst y;exact λh=>i (h▸C)
 obtain⟨st,w⟩:=ov.st p j cf s;exact⟨st,w,A⟩
theorem KQ.mQ {lq:List P2}(kq:KQ W0 H x lq)(hi:HI H held s0)(hrd:ZA H thread=0)(hm:(a,b)∈x.kn)(hnq:a∉q.q.map (·.1)):mQ H x q thread a=0:=by
 unfold Go.Ar.mQ;rw[zB (by rw[hrd];decide),zB hnq,Z6 kq.g.nd hm];simp only;rw[kq.g.lost hi hm,kq.g.broken hi hm];rfl
theorem KQ.C8 (kq:KQ W0 H x q.q)(hk:x.kn.length<=1000)(hr:q.rs.length+q.q.length<=9000):QS x q:=⟨kq.g.i,O,λe a=>by
 obtain⟨b,d,_,_⟩:=kq.k e a;have h:e.1=b.1/\gS b:=kq.g.i _ (Z8 d);have y:=h.1;have r:=h.2.z;have p:=h.2.base;have j:=h.2.t;have u:=h.2.m;have w:=h.2.s;have A:=ZS (n:=b.2.1) O;unfold jx;omega,hr⟩
theorem PQ.drain (p:PQ σ0 U bl by' n xb pp gb km fm qb T Qa Qf H x q addrs ad fl fd)(gc:Gc σ0)(hn:n<=900){R:Int->Int->Hp->Prop}
 (hR:∀w T' H' x' q',PQ σ0 w bl by' (n+1) xb pp gb km fm qb T' Qa Qf H' x' q' addrs ad fl fd->iB 0 H x q H' x' q'->q'.q=[]->R (q.q.length:Int) 0 w):WD.c (aW qb) 0 U R:=by
 have b:=p.al.ready;obtain⟨r,D,hi⟩:=p.o.p.hi;have i:=p.o.p.cf;have j:=p.o.p.qi;have C:=p.o.p;have z:=p.C8 O;obtain⟨L,u,s0,P,Qq,Qr,qs,M,y,rfl,rfl⟩:=C;refine Dq y gc z 0 (λw h=>absurd b h) λw H' x' q' _ m E=>?_;obtain⟨T',K,A,F⟩:=E.tb;obtain⟨g,B⟩:=p.al.out (d:=⟨42,0,0,0,0,0,0,.empty⟩) (a:=0) hi i j (.drain rfl b m);have s:=m.st p.al.kq hi i b;refine hR w T' H' x' q' ⟨p.o.fD A K F,?_,by have:=p.no;omega,by have:=p.fn;omega⟩ m s.2;have J:ad++Option.toList (none:Option Int)=ad:=by simp
 have G:fd++Option.toList (none:Option Int)=fd:=by simp
 rw[J,G]at g;exact g
end Go.Ar
namespace Go.Proofs
open Go.Vc
set_option maxRecDepth 100000
def WQ.h:Hn:=.q .o2 (.q .o5 (.q (.q (.cU (.seq [.op,.op,.op,.cW false 2 [.op,.op]])) .aJ) (.q (.q .o1 (.k (.loop [(10,.I)] (.q (.q .o4 (.c .l .l)) (.q (.k (.q (.cU (.held true [] (.tk [0,1,2,3,5,6,7,8,9] (.all [(4,.take 10 (.take 11 (.done)))])))) (.q .o7 (.q .o6 (.q (.q (.cU (.gI true [9] [(93,.one .b)] (.take 0 (.take 1 (.take 2 (.take 3 (.take 4 (.split 57 (.take 5 (.take 6 (.take 7 (.take 8 (.take 10 (.all [(9,.take 11 (.take 12 (.take 13 (.take 14 (.take 15 (.take 16 (.take 17 (.take 18 (.take 19 (.take 20 (.take 21 (.take 22 (.take 23 (.take 24 (.take 25 (.take 26 (.take 27 (.take 28 (.take 29 (.take 30 (.take 31 (.take 32 (.take 33 (.take 34 (.take 35 (.take 36 (.take 37 (.take 38 (.take 39 (.take 40 (.done)))))))))))))))))))))))))))))))])))))) (.take 5 (.take 6 (.take 7 (.take 8 (.take 10 (.all [(9,.take 11 (.take 12 (.take 13 (.split 66 (.take 14 (.take 15 (.take 16 (.take 17 (.take 18 (.take 19 (.take 20 (.take 21 (.take 22 (.take 23 (.take 24 (.take 25 (.take 26 (.take 27 (.take 28 (.take 29 (.take 30 (.take 31 (.take 32 (.take 33 (.take 34 (.take 35 (.take 36 (.take 37 (.take 38 (.take 39 (.take 40 (.done)))))))))))))))))))))))))))) (.take 14 (.take 15 (.take 16 (.take 17 (.take 18 (.all [(19,.take 20 (.take 21 (.take 22 (.take 23 (.split 76 (.take 24 (.take 25 (.take 26 (.take 27 (.take 28 (.take 29 (.take 30 (.take 31 (.take 32 (.take 33 (.take 34 (.take 35 (.take 36 (.take 37 (.take 38 (.take 39 (.take 40 (.done)))))))))))))))))) (.take 24 (.take 25 (.take 26 (.take 27 (.take 29 (.take 30 (.take 31 (.take 34 (.take 35 (.all [(28,.all [(32,.take 33 (.take 36 (.take 37 (.all [(38,.take 39 (.take 40 (.done)))]))))]),(32,.take 33 (.take 36 (.all [(28,.take 37 (.all [(38,.take 39 (.take 40 (.done)))]))])))])))))))))))))))]))))))))))])))))))))))))) .aK) (.q (.cU (.seq [.op,.op,.op,.op,.op,.op,.op,.cW true 2 [.op,.op],.op,.cW true 3 (RI.ops 3),.op,.cW false 21 [.op,.op,.op,.op,.op,.op,.op,.cW true 7 (RI.ops 7),.op,.cW true 4 (RI.ops 4)]])) .aK)))))) .o3))))) .aL)))
def WQ.v (a b c d e f g h:Int)(i:Sl)(j:Hp)(k:aO):Prop:=aV #[.I a,.I b,.I c,.I d,.I e,.I f] 25 j λl m=>aQ l 0 m λn=>aQ l 1 m λo=>aQ l 2 m λp=>aQ l 3 m λq=>aQ l 4 m λr=>aQ l 5 m λs=>X6.c n o p q r s g h m λt u=>bX (λv w=>If v (XA.c w λx y=>k x y) (Yb [bO] (λz=>z 0 w) λaa (ab:Int) ac=>If (ab<((i.len:Nat):Int)) (dV ac λad=>bW t λae=>aU ad ae 1 λaf=>bW t λag=>aT ad ag 3 λah=>Wy.c af ac λai aj=>And (ad aj) <| Ix i.a i.len ab 8 λak=>aQ ak 0 aj λal=>aQ ak 1 aj λam=>aQ ak 2 aj λan=>aQ ak 3 aj λao=>aQ ak 4 aj λap=>aQ ak 5 aj λaq=>aQ ak 6 aj λar=>bD ak 7 aj λau=>Xp.c t al am an ao ap aq ar au aj λav aw=>bG t 1 aw λay=>Wy.c ay aw λaz a0=>Jn [.b] (λ(a1:Bool) a2=>If a1 (k false a2) (Ix i.a i.len ab 8 λa3=>aQ a3 0 a2 λa4=>bX (λa5 a6=>bX (λa7 a8=>bX (λa9 ba=>If a9 (k false ba) (bM (ab+1) λbb=>aa bb ba)) λbc=>If a7 (bc true a8) (Ix i.a i.len ab 8 λbd=>aQ bd 0 a8 λbe=>bX (λbf bg=>bX (λbh bi=>bc bh bi) λbj=>If bf (WY.c az ai bg λbk bl=>bj (!bk) bl) (bj false bg)) λbm=>If (be != 42) (bF t 3 a8 λbo=>bm (((bo.len:Nat):Int)==((ah.len:Nat):Int)) a8) (bm false a8))) λbp=>If a5 (bp (decide (((az.len:Nat):Int)>0)) a6) (bp false a6)) λbq=>
 If (a4==42) (bq (av==0) a2) (bq false a2))) λbr=>dV a0 λbs=>If (((az.len:Nat):Int)>g) (br true a0) (bW t λbt=>aU bs bt 1 λbu=>Wx.c bu a0 λbv bw=>If (bv>h) (br true bw) (bF t 3 bw λbz=>If (((az.len:Nat):Int)>((bz.len:Nat):Int)) (br true bw) (bW t λb0=>bW t λb1=>(aX b0 3 bw λb2=>aX b1 3 bw λb3=>bM (((b3.len:Nat):Int)-((az.len:Nat):Int)) λb4=>fA b2 1 b4 (b2.len:Nat) (b2.cap:Nat) λb5=>WY.c az b5 bw λb6 b7=>br (!b6) b7) ∧ (aX b1 3 bw λb8=>bM (((b8.len:Nat):Int)-((az.len:Nat):Int)) λb9=>aX b0 3 bw λca=>fA ca 1 b9 (ca.len:Nat) (ca.cap:Nat) λcb=>WY.c az cb bw λcc cd=>br (!cc) cd))))) (XA.c ac λce cf=>k ce cf))) λcg=>If t.isNone (cg true u) (X8.c i 50 u λch ci=>cg ch ci)
theorem WQ.o {a b c d e f g h i j k}(l:WQ.v a b c d e f g h i j k):WQ.c a b c d e f g h i j k:=Wa Tryz.func3 (x:=WQ.h) (R0 l)
end Go.Proofs
namespace Go.Ar
open Go Go.Vc Go.Proofs
open Go.Vc (bU dA cO)
variable {a bl by':Int}{U σ0 v w w':Hp}{F P Q X T T' Qa Qf:Rg}{H H' H1:Hw}{held:List Pc}{s0 sp:Sp}{x y x':Gu}{b:B5}{l:Sl}{ds:List fo}{q q':Qu}{n xb pp gb km fm qb:Nat}{addrs fl:Sl}{ad fd:List Int}{d:fo}{e:Int}{add del:Option Int}
theorem iB.nil {thread:Int}(h:iB thread H x q H' x' q'):q'.q=[]:=by
 induction h with
 | stop h=>exact h
 | next _ _ ih=>exact ih
theorem jk.order (o:jk H x q d a H' x' q' e add del)(h:d.kd≠42)(hd:del=none):q'=q:=by
 cases o with
 | same=>rfl
 | full=>rfl
 | dX=>rfl
 | kV=>cases hd
 | drain hk=>exact absurd hk h
 | wrote=>rfl
theorem jk.rX (o:jk H x q d a H' x' q' e add del)(h:d.kd=42)(he:e=0):q'.q=[]:=by
 cases o with
 | same _ hh=>exact absurd h (hh he).2.2
 | full hk=>rw[h]at hk;cases hk
 | dX hk=>rw[h]at hk;cases hk
 | kV hk=>rw[h]at hk;cases hk
 | drain _ _ dr=>exact dr.nil
 | wrote hk=>rw[h]at hk;cases hk
theorem PQ.tcr (p:PQ σ0 U bl by' n xb pp gb km fm qb T Qa Qf H x q addrs ad fl fd){c:Nat}(h:pD T xb Qa Qf c):σ0.size<=c/\c<U.size:=by
 rcases h with h|rfl|h|h
 ·exact p.o.p.lt h
 ·exact⟨p.o.qI.1,p.o.b.lt⟩
 ·have:=p.o.qa c h;exact⟨this.1,this.2.1⟩
 ·have:=p.o.qf c h;exact⟨this.1,this.2.1⟩
theorem PQ.FN (p:PQ σ0 U bl by' n xb pp gb km fm qb T Qa Qf H x q addrs ad fl fd):fl.len=fd.length:=by have:=p.o.rf.1;simp[Wu]at this;omega
set_option maxRecDepth 16000 in
theorem NV (gl:Gl U)(gc:Gc U)(b b1 b2 b3 b4 b5 W9 bytes:Int)(hd:ka U l ds){R:aO}(hR:∀σ',aG U σ'->R true σ'):WQ.c b b1 b2 b3 b4 b5 W9 bytes l U R:=by
 refine WQ.o ?_;unfold WQ.v;refine nw (cs:=[.int .i64 b,.int .i64 b1,.int .i64 b2,.int .i64 b3,.int .i64 b4,.int .i64 b5]) λv hz e hb=>hb.rI rfl (hb.rI rfl (hb.rI rfl (hb.rI rfl (hb.rI rfl (hb.rI rfl ?_)))));have N:=gl.bP e;have D:=gc.bP e;have X:=hd.bP e;have hl:=hd.len;have hbig:=hd.yv;refine NQ (σ0:=v) (Ext.refl _ _) N D b b1 b2 b3 b4 b5 W9 bytes (λv1 e1=>?_) λv1 xb pp gb km fm qb T H x q j Z o al hno hqe e1=>?_
 ·exact bX.intro (cF rfl (cF rfl (GI (N.bP e1) (D.bP e1) λv2 e2=>hR v2 ((e.trans e1).trans e2))))
 refine bX.intro (cD rfl (N5 (cP (λ_=>GI (N.bP e1) (D.bP e1) λv2 e2=>hR v2 ((e.trans e1).trans e2)) λhlm=>?_)));refine Qp (a:=bO) (λ(z:Int) u=>∃(i:Nat) (T Qa Qf:Rg) (H:Hw) (x:Gu) (q:Qu) (j:Sl) (ad:List Int) (Z:Sl) (fd:List Int),z=i/\i<=ds.length/\PQ v u W9 bytes i xb pp gb km fm qb T Qa Qf H x q j ad Z fd) (λz _=>ds.length-z.toNat)
  ⟨0,T,_,_,H,x,q,j,[],Z,[],rfl,O,⟨o,al,O,by simp⟩⟩ ?_
 rintro(z:Int) u ⟨i,T,Qa,Qf,H,x,q,j,ad,Z,fd,rfl,hi,p⟩;have eu:=p.o.p.e;refine cP (λhlt=>?_) λhge=>GI (N.bP eu) (D.bP eu) λv2 e2=>hR v2 ((e.trans eu).trans e2);have hx:ds[i]?=some (ds[i]' O):=cX _;generalize (ds[i]' O)=d at hx;have hdi:=hd.i _ (zG hx);obtain⟨L0,hh0,s00,P0,Qq0,Qr0,qs0,rs0,qp0,hpp0,_⟩:=p.o.p;refine⟨λm=>aG u m,Ext.refl _ _,bL (gL (c:=.p) (y:=some ⟨qb,0,none⟩) (λm e=>e.bV p.o.b id) rfl (bL (gL (c:=.s) (y:=Z) (λm e=>e.bV p.o.b id) rfl (Ax qp0 λsb v5 Qb eb hsb hQb=>⟨eb,?_⟩))))⟩;have hsl:sb.len=q.q.length:=by have:=hsb.1;simp[Wu]at this;omega
 have p5:=p.om eb;have L:=p5.o.p.e;refine X.rd L hx λba oa B=>eB (B _ L 0 _ rfl) (eB (B _ L 1 _ rfl) (eB (B _ L 2 _ rfl) (eB (B _ L 3 _ rfl) (eB (B _ L 4 _ rfl) (eB (B _ L 5 _ rfl) (eB (B _ L 6 _ rfl) (B7 (B _ L 7 _ rfl) ?_)))))));refine p5.Sd D O d hdi λve v6 T' H' x' q' Qa' Qf' M g add del G out eT hT=>?_;have hsb6:bS sb 1 (Wu (q.q.map (·.1))) v6 Qb:=aI.bT hsb eT λc _ hq h=>by
  have h1:=hQb c hq;have h2:=(p.tcr h).2;omega
 refine bL (G.o.b.rP rfl ?_);obtain⟨L1,hh1,s01,P1,Qq1,Qr1,qs1,rs1,qp1,hpp1,hT1⟩:=G.o.p;refine Ax qp1 λE v7 Qh eh W hQh=>?_;have V:E.len=q'.q.length:=by have:=W.1;simp[Wu]at this;omega
 have p7:=G.om eh;have qp7:=qp1.fr eh;have hsb7:=aI.bP hsb6 eh;have hfl:=p.FN;have hfl':=G.FN;have P:=G.al.ov;unfold UU at P;rw[xm,decide_eq_false_iff_not,decide_eq_false_iff_not,G.al.bb.1,G.al.bb.2]at P;have hlens:=G.al.lens;have hpfn:=G.fn;obtain⟨pre,hsx⟩:=G.al.sx;refine yo (λr u=>aG v7 u/\r=false) (λr v8 ⟨S,C⟩=>?_) λJ A=>?_
 rotate_left
 ·refine⟨λm=>aG v7 m,Ext.refl _ _,cD (by rw[V];exact zJ P.1) (bL (gL (c:=.p) (y:=some ⟨qb,0,none⟩) (λm e=>e.bV p7.o.b id) rfl (DW qp7 λv8 S=>cD (zJ P.2) (bL ((p7.om S).o.b.rS rfl (cD (zJ ?_) (bL (bL ?_))))))))⟩
  ·simp only;omega
  have F:=p7.om S;have hcap:=bS.nG F.o.rf;have Q:=cV.sub (bS.fW F.o.rf) (lo:=g.len-E.len) (hi:=g.len) (mx:=g.cap) O (zD _) hcap;have hpl:(fd++Option.toList del).length=pre.length+q'.q.length:=by rw[hsx];simp
  have Y:(fd++Option.toList del).drop (g.len-E.len)=q'.q.map (·.1):=by
   rw[hsx,show g.len-E.len=pre.length by omega,List.drop_left]
  have htk:((Wu (fd++Option.toList del)).drop ((g.len-E.len)*1)).take ((g.len-(g.len-E.len))*1)=Wu (q'.q.map (·.1)):=by
   unfold Wu;rw[mF,mF,←List.map_drop,Y,lh aE]
  rw[htk]at Q;have hms:fA g 1 ((g.len-E.len:Nat):Int) (g.len:Nat) (g.cap:Nat) λt90=>WY.c E t90 v8 λt91 v16=>J (!t91) v16:=by
   refine jl O O (zD _) (HY (bS.fW (aI.bP W S)) Q aE (A _ _ ⟨S,?_⟩));rw[zI rfl];rfl
  exact⟨F.o.b.rS rfl (F.o.b.rS rfl (cT (m:=g.len-E.len) aC O hms)),F.o.b.rS rfl (cT (m:=g.len-E.len) aC O (F.o.b.rS rfl hms))⟩
 refine cD C ?_;have F:=p7.om S;have K:=F.o.p.e;refine X.rd K hx λba oa B=>eB (B _ K 0 _ rfl) ?_;have hd42:d.kd=42->ve=0->E.len=0:=λh1 h2=>by rw[V,out.rX h1 h2];rfl
 have hsh8:=aI.bP W S;have hsb8:=aI.bP hsb7 S;refine Kd (λr u=>u=v8/\r=decide (d.kd=42/\ve=0)) (λr u ⟨hu,C⟩=>?_) λJ A=>cN (λh=>A _ _ ⟨rfl,?_⟩) λh=>A _ _ ⟨rfl,?_⟩
 rotate_left
 ·have:d.kd=42:=by simpa using h
  rw[kA,decide_eq_true_iff,zT];exact⟨λh=>⟨this,h⟩,λh=>h.2⟩
 ·have:¬d.kd=42:=by simpa using h
  rw[zJ];exact λh=>this h.1
 subst hu;refine Kd (λr w=>w=u/\r=false) (λr w ⟨hw,C⟩=>?_) λJ A=>cN (λh=>A _ _ ⟨rfl,?_⟩) λh=>A _ _ ⟨rfl,rfl⟩
 rotate_left
 ·rw[C,decide_eq_true_iff]at h;rw[hd42 h.1 h.2];rfl
 subst hw;refine Kd (λr u=>aG w u/\r=false) (λr u ⟨eu,C⟩=>?_) λJ A=>cD C ?_
 ·exact cD C (cT (m:=i+1) O O ⟨⟨i+1,T',Qa',Qf',H',x',q',M,_,g,_,rfl,O,F.om eu⟩,O⟩)
 refine X.rd K hx λba oa B=>eB (B _ K 0 _ rfl) ?_;refine Kd (λr u=>u=w/\r=decide (d.kd≠42/\g.len=Z.len)) (λr u ⟨hu,C⟩=>?_) λJ A=>?_
 rotate_left
 ·refine cN (λh=>bL (F.o.b.rS rfl (A _ _ ⟨rfl,?_⟩))) λh=>A _ _ ⟨rfl,?_⟩
  ·have:¬d.kd=42:=by simpa using h
   rw[kA,decide_eq_true_iff,zT];simp only;omega
  ·have:d.kd=42:=by simpa using h
   rw[zJ];exact λh=>h.1 this
 subst hu;refine Kd (λr w=>aG u w/\r=false) (λr w ⟨ew,C⟩=>?_) λJ' hJ'=>cN (λh=>?_) λh=>hJ' _ _ ⟨Ext.refl _ _,rfl⟩
 ·exact A _ _ ⟨ew,C⟩
 ·rw[C,decide_eq_true_iff]at h;have hdel:del=none:=by
   cases del with
   | none=>rfl
   | some z=>exfalso;simp only[qz,zK,rG]at hfl';omega
  have hqq:=out.order h.1 hdel;refine HY (bS.fW hsh8) (bS.fW hsb8) aE (hJ' _ _ ⟨Ext.refl _ _,?_⟩);rw[hqq,zI rfl];rfl
end Go.Ar
namespace Go.Ar
open Go Go.Vc Go.Proofs Go.ChangeShapes Go.WideShapes Go.RowKit Go.Deep
theorem GU {H:Type}{enc:TypeId×Value->H}{P:Program}{w:World}{base:Nat}{sp:Nat->Bool}{held:Bool}{fuel:Nat}{t:TypeId}{c:Value}{y:DataW H×List MemPlace}
 (ht:P.underlying t=some .bool) (h:DataW.trod enc P w base sp held fuel t [c]=some y):∃n,c=.bool n/\y=(.lit (.bool n),[]):=by
 cases fuel with
 | zero=>simp[DataW.trod]at h
 | succ fuel=>
  cases c<;>simp[DataW.trod,ht]at h
  rename_i n;exact⟨n,rfl,by simpa using h.symm⟩
theorem BV {P:Program}{w:World}{t:TypeId}{f0 f1:Field}{cs:Array Value}{fuel:Nat}{p:List MemPlace}{x y:Bool}(ht:P.underlying t=some (.struct #[f0,f1]))(hone:oneCellFields P #[f0,f1]=true)(hC:P.cellsOf t=2)
 (h0:P.underlying f0.type=some .bool) (h1:P.underlying f1.type=some .bool) (h:DataW.trod (λ_=>()) P w 0 (λ_=>true) false fuel t cs.toList=some (.agg [.lit (.bool x),.lit (.bool y)],p)):cs = #[.bool x,.bool y]:=by
 obtain⟨u,n,B,m,a,g,b⟩:=DataW.trod_struct ht h;obtain⟨l⟩:=cs;have d:l.length=2:=by rw[←hC];simpa using a
 match l,d with
 | [c0,c1],_=>
  have i:=b 0 f0 rfl;have j:=b 1 f1 rfl;obtain⟨r,q0⟩:=hone_of hone 0 f0 rfl;obtain⟨o1,q1⟩:=hone_of hone 1 f1 rfl;rw[r,q0]at i;rw[o1,q1]at j
  match u,g with
  | [y0,y1],_=>
   obtain⟨z,rfl,s⟩:=GU h0 (c:=c0) (y:=y0) (by simpa using i);obtain⟨A,rfl,e1⟩:=GU h1 (c:=c1) (y:=y1) (by simpa using j);subst s;subst e1;simp at m;obtain⟨⟨rfl,rfl⟩,_⟩:=m;rfl
theorem Gb {w:World}{a:Addr}{v:Value}(h:w.cell? a=some v):cell w.heap a=some v:=h
section
variable {H:Type}{enc:TypeId×Value->H}{P:Program}{w:World}
theorem TK {x:Int}(h:(Lit.int .i64 x).wf=true):jx x:=by
 unfold jx;simp[Lit.wf,IntKind.min,IntKind.max,IntKind.bits,IntKind.signed]at h;omega
theorem Tw {t:TypeId}{f0 f1 f2 f3 f4 f5 f6 f7:Field}{fuel:Nat}{cs:List Value}{y:DataW H×List MemPlace}
 (ht:P.underlying t=some (.struct #[f0,f1,f2,f3,f4,f5,f6,f7])) (hone:oneCellFields P #[f0,f1,f2,f3,f4,f5,f6,f7]=true) (hC:P.cellsOf t=8)
 (h0:P.underlying f0.type=some (.int .i64)) (h1:P.underlying f1.type=some (.int .i64)) (h2:P.underlying f2.type=some (.int .i64)) (h3:P.underlying f3.type=some (.int .i64)) (h4:P.underlying f4.type=some (.int .i64)) (h5:P.underlying f5.type=some (.int .i64)) (h6:P.underlying f6.type=some (.int .i64)) (h7:P.underlying f7.type=some .string)
 (h:DataW.trod enc P w 0 (λ_=>true) true fuel t cs=some y):∃d:fo,cs=uD d/\kT d:=by
 obtain⟨B,n,W,V,a,m,i⟩:=DataW.trod_struct ht h;have r:cs.length=8:=by rw[←hC];exact a
 match cs,r with
 | [c0,c1,c2,c3,c4,c5,c6,c7],_=>
  have one:∀(j:Nat) (f:Field) (c:Value),(#[f0,f1,f2,f3,f4,f5,f6,f7]:Array Field)[j]?=some f->[c0,c1,c2,c3,c4,c5,c6,c7][j]?=some c->∃z,DataW.trod enc P w 0 (λ_=>true) true n f.type [c]=some z:=by
   intro j f c hj hc;obtain⟨E,M⟩:=hone_of hone j f hj;have h3:=i j f hj;rw[E,M]at h3;have b:=(cY.1 hc).1;have e1:([c0,c1,c2,c3,c4,c5,c6,c7].drop j).take 1=[c]:=by
    rw[yq b,vz,vt,(cY.1 hc).2]
   rw[e1]at h3;have u:B[j]?=some (B[j]'(by rw[m];simp at b ⊢;omega)):=cX _;rw[u]at h3;exact⟨_,h3⟩
  have int:∀(j:Nat) (f:Field) (c:Value),(#[f0,f1,f2,f3,f4,f5,f6,f7]:Array Field)[j]?=some f->[c0,c1,c2,c3,c4,c5,c6,c7][j]?=some c->P.underlying f.type=some (.int .i64)->∃x:Int,c=.int .i64 x/\jx x:=by
   intro j f c hj hc hu;obtain⟨z,p⟩:=one j f c hj hc;obtain⟨x,g,_,J⟩:=DataW.trod_int hu p;simp only[List.cons.injEq,and_true]at g;exact⟨x,g,TK J⟩
  obtain⟨N,rfl,_⟩:=int 0 f0 c0 rfl rfl h0;obtain⟨K,rfl,_⟩:=int 1 f1 c1 rfl rfl h1;obtain⟨R,rfl,Q⟩:=int 2 f2 c2 rfl rfl h2;obtain⟨S,rfl,L⟩:=int 3 f3 c3 rfl rfl h3;obtain⟨C,rfl,_⟩:=int 4 f4 c4 rfl rfl h4;obtain⟨F,rfl,G⟩:=int 5 f5 c5 rfl rfl h5;obtain⟨D,rfl,U⟩:=int 6 f6 c6 rfl rfl h6;obtain⟨z,p⟩:=one 7 f7 c7 rfl rfl;obtain⟨s,A,_⟩:=DataW.trod_string h7 p;simp only[List.cons.injEq,and_true]at A;subst A;exact⟨⟨N,K,R,S,C,F,D,s⟩,rfl,Q,L,G,U⟩
theorem S9 {t e:TypeId}{f0 f1 f2 f3 f4 f5 f6 f7:Field}{a:Option Addr}{len cap:Nat}{d:DataW H}{ps:List MemPlace}
 (htl:P.underlying t=some (.slice e)) (ht:P.underlying e=some (.struct #[f0,f1,f2,f3,f4,f5,f6,f7])) (hone:oneCellFields P #[f0,f1,f2,f3,f4,f5,f6,f7]=true) (hC:P.cellsOf e=8)
 (h0:P.underlying f0.type=some (.int .i64)) (h1:P.underlying f1.type=some (.int .i64)) (h2:P.underlying f2.type=some (.int .i64)) (h3:P.underlying f3.type=some (.int .i64)) (h4:P.underlying f4.type=some (.int .i64)) (h5:P.underlying f5.type=some (.int .i64)) (h6:P.underlying f6.type=some (.int .i64)) (h7:P.underlying f7.type=some .string)
 (h:DataW.Trod enc P w 0 (λ_=>true) true t (.slice a len cap) d ps):∃ds,ka w.heap ⟨a,len,cap⟩ ds:=by
 obtain⟨N,R⟩:=h;rcases open_slice htl R with⟨p,_⟩|⟨ad,len',cap',m,n,D,Pl,p,_,hl,hm,hmm,z,hi⟩
 ·simp[Value.cells]at p;obtain⟨rfl,rfl,rfl⟩:=p;exact⟨[],rfl,λi x z=>by simp at z,by simp,by simp⟩
 ·simp[Value.cells]at p;obtain⟨rfl,rfl,rfl⟩:=p;have S:m=cap:=by simpa using hmm
  have key:∀i,i<len->∃u:fo,(∀j v,(uD u)[j]?=some v->cell w.heap ((ad.add (i*8)).add j)=some v)/\kT u:=by
   intro i r;obtain⟨Q,B,F⟩:=hi i O;rw[hC]at B;obtain⟨x,p,K⟩:=Tw ht hone hC h0 h1 h2 h3 h4 h5 h6 h7 F;obtain⟨_,U,G⟩:=World.cells?_some B;refine⟨x,λj v E=>?_,K⟩;have V:=(cY.1 E).1;have:=G j (by simpa[uD]using V);rw[p]at this;rw[E]at this;exact this
  let g:Nat->fo:=λi=>if hi:i<len then(key i hi).choose else⟨0,0,0,0,0,0,0,ByteArray.empty⟩
  have M:∀i,(hi:i<len)->g i=(key i hi).choose:=λi hi=>by simp only[g,hi,dif_pos]
  refine⟨(List.range len).map g,by simp,λi x z=>?_,λx z=>?_,?_⟩
  ·have r:i<len:=by
    have:=(cY.1 z).1;simpa using this
   have A:g i=x:=by simpa[r]using z
   rw[M i r]at A;have C:=(key i r).choose_spec;rw[A]at C;obtain⟨B,_⟩:=C;have J:=(key 0 O).choose_spec.1;have L:=J 0 _ rfl;have y:=JZ L;simp only[uW,Addr.add_zero']at y;obtain⟨b,o,s⟩:=ad;have C:s=none:=y.2;subst C;refine⟨b,o,rfl,y.1,λj v E=>?_⟩;have:=B j v E;rw[add_lit,add_lit]at this;exact this
  ·obtain⟨i,hi,rfl⟩:=zE.1 z;have r:=zg.1 hi;rw[M i r];exact(key i r).choose_spec.2
  ·have:maxLen=9223372036854775807:=rfl;simp;omega
theorem Ou {b0:Nat}{t:TypeId}{f0 f1 g0 g1 g2 g3 g4:Field}{v:Value}{d:DataW H}{ps:List MemPlace}
 (ht:P.underlying t=some (.struct #[f0,f1])) (hC:P.cellsOf t=6) (ho:f0.offset=0/\P.cellsOf f0.type=1/\f1.offset=1/\P.cellsOf f1.type=5)
 (h0:P.underlying f0.type=some (.int .i64)) (h1:P.underlying f1.type=some (.struct #[g0,g1,g2,g3,g4])) (hone:oneCellFields P #[g0,g1,g2,g3,g4]=true)
 (k0:P.underlying g0.type=some (.int .i64)) (k1:P.underlying g1.type=some (.int .i64)) (k2:P.underlying g2.type=some (.int .i64)) (k3:P.underlying g3.type=some (.int .i64)) (k4:P.underlying g4.type=some (.int .i64))
 (hval:Value.okWide P w .any b0 t v) (h:DataW.Trod enc P w 0 (λ_=>true) true t v d ps):∃(x0 x1 x2 x3 x4 x5:Int),v=.agg #[.int .i64 x0,.int .i64 x1,.int .i64 x2,.int .i64 x3,.int .i64 x4,.int .i64 x5]:=by
 unfold Value.okWide at hval;rw[ht]at hval;obtain⟨L,rfl,C,_⟩:=hval;obtain⟨g,p⟩:=h;obtain⟨l⟩:=L;have B:l.length=6:=by rw[←hC];simpa using C
 obtain⟨F,m,u,s⟩:=ho
 match l,B with
 | [c0,c1,c2,c3,c4,c5],_=>
  have p:DataW.trod enc P w 0 (λ_=>true) true g t [c0,c1,c2,c3,c4,c5]=some (d,ps):=p;obtain⟨y0,y1,n,_,_,q0,q1⟩:=trod_struct2 ht p;rw[F,m]at q0;rw[u,s]at q1;have A:DataW.trod enc P w 0 (λ_=>true) true n f0.type [c0]=some y0:=q0;have y:DataW.trod enc P w 0 (λ_=>true) true n f1.type [c1,c2,c3,c4,c5]=some y1:=q1;obtain⟨x0,a,_,_⟩:=DataW.trod_int h0 A;simp only[List.cons.injEq,and_true]at a;subst a;obtain⟨J,n,N,M,G,r,z⟩:=DataW.trod_struct h1 y;have int:∀(j:Nat) (f:Field) (c:Value),(#[g0,g1,g2,g3,g4]:Array Field)[j]?=some f->[c1,c2,c3,c4,c5][j]?=some c->P.underlying f.type=some (.int .i64)->∃x:Int,c=.int .i64 x:=by
   intro j f c hj hc hu;obtain⟨ho,K⟩:=hone_of hone j f hj;have i:=z j f hj;rw[ho,K]at i;have b:=(cY.1 hc).1;have e1:([c1,c2,c3,c4,c5].drop j).take 1=[c]:=by
    rw[yq b,vz,vt,(cY.1 hc).2]
   rw[e1]at i;have E:J[j]?=some (J[j]'(by rw[r];simp at b ⊢;omega)):=cX _;rw[E]at i;obtain⟨x,D,_,_⟩:=DataW.trod_int hu i;exact⟨x,by simpa using D⟩
  obtain⟨x1,rfl⟩:=int 0 g0 c1 rfl rfl k0;obtain⟨x2,rfl⟩:=int 1 g1 c2 rfl rfl k1;obtain⟨x3,rfl⟩:=int 2 g2 c3 rfl rfl k2;obtain⟨x4,rfl⟩:=int 3 g3 c4 rfl rfl k3;obtain⟨x5,rfl⟩:=int 4 g4 c5 rfl rfl k4;exact⟨x0,x1,x2,x3,x4,x5,rfl⟩
end
end Go.Ar