/- Texts joined. -/
import Derived.Test.YtkabjcanamcbeaaGreatDoorRows
import Derived.ChangeVars
import Derived.JoinedOf
import Derived.RowKit
import Derived.WalkKit
import Derived.ProofKit
import Derived.OpenShut
import Derived.ChangeOld
import Derived.Carry
import Derived.Test.YtkabjcanamcbeaaGreatDoorT7
set_option linter.unusedVariables false
set_option linter.unusedSimpArgs false
namespace Go.Ar
open Go Go.Vc Go.Proofs
open Go.Vc (bV dE cT)
open Go.Bu (iX)
variable {σ σ0 v w w':Hp}{F P Q X T:Rg}{L:dP}{H H':Hw}{held:List Pc}{s0:Sp}{t n:Nat}{g:Th}{mb am m:Nat}{x y:Me}
theorem Tm {s:Sl}{bs:List Bk}(hs:cP s 4 (ja bs) σ F)(hl:bs.length<=1000000)(hb:∀b∈bs,0<=b.2.1/\b.2.1<=270000){R:aN}(hR:∀σ',bO σ σ'->R ((bs.map λb=>b.2.1).sum) σ') :
 Xa.c s ⟨60,#[],#[]⟩ σ R:=by
 refine Xa.o ?_;have H:s.len=bs.length:=by have:=hs.1;rw[HY]at this;omega
 refine Kh (a:=bN) (bb:=bN) (λ(sum i:Int) w=>∃k:Nat,i=k/\k<=bs.length/\bO σ w/\sum=((bs.take k).map λb=>b.2.1).sum) (λ_ i _=>bs.length-i.toNat) ⟨0,rfl,O,Ext.refl _ _,by simp⟩ ?_;rintro(sum:Int) (i:Int) w ⟨k,rfl,hk,e,rfl⟩;refine cH (λB=>?_) λC=>?_
 ·have N:k<bs.length:=by omega
  have j:bs[k]?=some bs[k]:=cL _;generalize bs[k]=b at j;have z:=hb b (zE j);have g:=U8 (l:=bs.take k) (f:=λb:Bk=>b.2.1) (c:=270000) λb h=>hb b (m7 h);have u:(bs.take k).length=k:=by rw[zO];omega
  rw[u]at g;have d:((bs.take (k+1)).map λb:Bk=>b.2.1).sum=((bs.take k).map λb:Bk=>b.2.1).sum+b.2.1:=by rw[zf,j];simp
  refine DM (aH.bK (aH.cut hs) e) j λbb o r=>dJ (r 0 _ rfl) (dJ (r 1 _ rfl) (dJ (r 2 _ rfl) (dJ (r 3 _ rfl) ?_)));refine nw (cs:=[.int .i64 0,.int .i64 0,.int .i64 0,.int .i64 0]) λV y M P=>P.s1 aA λv3 o3 J=>J.s1 aA λS o4 K=>K.s1 aA λU o5 G=>G.s1 aA λv6 o6 p=>?_;have D:bO w v6:=Ext.fresh (Ext.fresh (Ext.fresh (Ext.fresh M o3.ext λi x=>O) o4.ext λi x=>O) o5.ext λi x=>O) o6.ext λi x=>by omega
  refine p.rI rfl (p.rI rfl (p.rI rfl (p.rI rfl ?_)));refine Gf (all := #[.agg #[.int .i64 b.1,.int .i64 b.2.1,.int .i64 b.2.2.1,.int .i64 b.2.2.2]]) (by kernel_rfl) aA ?_;refine XL.o ?_;refine nw (cs:=[.int .i64 b.1,.int .i64 b.2.1,.int .i64 b.2.2.1,.int .i64 b.2.2.2]) λQ L E A=>A.rI rfl (ar O O (bZ (m:=k+1) O O ⟨⟨k+1,rfl,O,(e.trans D).trans E,d.symm⟩,O⟩))
 ·have:k=bs.length:=by omega
  subst this;rw[zm];exact hR w e
def El (l:List (Int×Bk)):Int:=(l.map λe=>e.2.2.1).sum
theorem PL (hi:HI H held s0){bs:List Bk}(hl:jG H.live bs):(bs.map λb=>(b.1,b)).Perm H.live:=by
 have g:(bs.map λb=>(b.1,b)).Nodup:=rK.2 (hl.lp.imp λ{a b} h e=>by have:=congrArg Prod.fst e;simp only at this;omega);have i:H.live.Nodup:=by
  have:=rK.1 hi.lk;exact this.imp λ{a b} h e=>h (by rw[e])
 rw[xo g i];intro e;rw[zD];constructor
 ·rintro⟨b,hb,rfl⟩;exact(hl.mem b).1 hb
 ·intro he;have d:=(hi.lv e he).1;exact⟨e.2,(hl.mem e.2).2 (by rw[d];exact he),by rw[d]⟩
theorem MC {l l':List Int}(h:l.Perm l'):l.sum=l'.sum:=by
 induction h with
 | nil=>rfl
 | cons a _ ih=>simp only[zu];omega
 | swap a b l=>simp only[zu];omega
 | trans _ _ h1 h2=>omega
theorem ξ (hi:HI H held s0){bs:List Bk}(hl:jG H.live bs):(bs.map λb=>b.2.1).sum=El H.live:=by
 have a:=MC ((PL hi hl).map λe=>e.2.2.1);rw[kP]at a;exact a
def yT (H:Hw):Nat:=Ua H+Vn Ul H+Vn p9 H
def xT:List Value:=[.int .i64 0,.int .i64 0,.int .i64 0,.int .i64 0,.int .i64 0,.int .i64 0,.int .i64 0,.int .i64 0,.int .i64 0,.int .i64 0]
set_option maxRecDepth 16000 in
theorem M4 (p:MP σ0 σ L H held s0 P mb am x){R:Int->Int->Int->Int->Int->Int->Int->Int->Int->Int->Hp->Prop}
 (hR:∀w,bO σ w->wV H->R x.sum (El H.live) (yT H:Nat) (Vn UA H:Nat) (Vn VA H*256:Nat) x.dO x.dL (x.cU:Nat) (x.fV:Nat) (x.iy:Nat) w):XH.c (aW mb) σ R:=by
 refine XH.o ?_;refine nw (cs:=xT) λv hz e S=>A3 (p.fr e) (cF rfl (aG ((p.fr e).b.rP rfl (Bq (p.fr e).h p.hi p.bP λC F so=>?_))));refine nw (cs:=V8) λv13 X K Q=>uc Q _ _ _ _ _ _ _ _ _ _ _ λv24 G g=>?_;have B:bO C v24:=Ext.fresh K G λi (hi:i=C.size)=>by omega
 have ev:bO v v24:=F.trans B;have d:=(p.fr e).fr ev;obtain⟨J,D,U,E,N,V,M⟩:=so;refine⟨λm=>bO v24 m,Ext.refl _ _,aG (bW.rH (c:=bN) (y:=x.sum) d.b rfl (aG (bW.rH (c:=.p) (y:=some ⟨L.p,0,none⟩) d.b rfl (bW.rH (c:=bN) (y:=(Ua H:Nat)) g rfl (bW.rH (c:=bN) (y:=0) g rfl (bZ (m:=Ua H) O O ?_))))))⟩;refine bW.rH (c:=bN) (y:=(Vn Ul H:Nat)) g rfl (bZ (m:=Ua H+Vn Ul H) O O (bW.rH (c:=bN) (y:=(Vn p9 H:Nat)) g rfl (bZ (m:=yT H) (by unfold yT;omega) (by unfold yT;omega) ?_)));refine bW.rH (c:=bN) (y:=(Vn UA H:Nat)) g rfl (bW.rH (c:=bN) (y:=(Vn VA H:Nat)) g rfl (bZ (m:=Vn VA H*256) O O ?_));refine aG (bW.rH (c:=bN) (y:=x.dO) d.b rfl (aG (bW.rH (c:=bN) (y:=x.dL) d.b rfl (aG (bW.rH (c:=bN) (y:=(x.cU:Int)) d.b rfl (aG (bW.rH (c:=bN) (y:=(x.fV:Int)) d.b rfl (aG (bW.rH (c:=bN) (y:=(x.iy:Int)) d.b rfl ?_)))))))));refine EK d.h p.hi λs v25 bs j W u=>⟨j,?_⟩;refine Tm (bR.fP u) (by rw[W.len];exact p.hi.iP) (λb S=>?_) λz r=>⟨j.trans r,?_⟩
 ·have:=p.hi.iQ ((W.mem b).1 S);simp only at this;omega
 rw[ξ p.hi W];have A:bW z σ.size xT:=((ev.trans j).trans r).cA S id;unfold xT at A;refine A.s1 aA λv1 o1 b1=>b1.s1 aA λv2 o2 b2=>b2.s1 aA λv3 o3 b3=>b3.s1 aA λv4 o4 b4=>b4.s1 aA λv5 o5 b5=>b5.s1 aA λv6 o6 b6=>b6.s1 aA λv7 o7 Z=>Z.s1 aA λv8 o8 Y=>Y.s1 aA λv9 o9 b9=>b9.s1 aA λv10 fW a=>?_;refine a.rI rfl (a.rI rfl (a.rI rfl (a.rI rfl (a.rI rfl (a.rI rfl (a.rI rfl (a.rI rfl (a.rI rfl (a.rI rfl (hR v10 ?_ ⟨J,D,U,E,N,V,M⟩))))))))));have eo:Ext (· = σ.size) z v10:=((((((((o1.ext.trans o2.ext).trans o3.ext).trans o4.ext).trans o5.ext).trans o6.ext).trans o7.ext).trans o8.ext).trans o9.ext).trans fW.ext;exact Ext.fresh (((e.trans ev).trans j).trans r) eo λi (hi:i=σ.size)=>by omega
theorem Fa (h:HH σ F L H)(hp:1<=H.cf.aF){R:aO}(hR:∀σ',bO σ σ'->R true σ'):Qx.c (aW L.p) σ R:=by
 refine Qx.o ?_;refine bY.intro (cJ rfl (JX h λw e=>?_));have:decide ((H.cf.aF:Int)>0)=true:=zU O;rw[this];exact hR w e
theorem FI (e0:bO σ0 σ)(h:HH σ P L H)(hi:HI H held s0)(hc:mI H)(hph:∀g∈H.bS,g.ph=none)(hpg:H.cf.aF<=128)(hP:∀b,P b->σ0.size<=b/\b<σ.size)(hg:jh (λb=>σ0.size<=b)/\¬σ0.size<=1){R:Option Addr->Int->Hp->Prop}
 (hR:∀w mb am,bO σ w->σ.size<=mb->σ.size<=am->MP σ0 w L H held s0 P mb am pf->R (some ⟨mb,0,none⟩) 0 w):QP.c (aW L.p) σ R:=by
 refine QP.o ?_;refine Fa h hc.1 λv e=>cF rfl (ta λr x z s=>nw (cs:=vT L.p v.size pf) λu m i y=>?_);have j:=e.1;have A:=e0.1;have a:=(e.trans z).trans i;refine hR u r.size v.size a O j ⟨e0.trans a,h.bK a,hi,hc,hph,hpg,λb d=>⟨(hP b d).1,by have:=(hP b d).2;omega⟩,⟨O,λd=>by have:=(hP _ d).2;omega⟩,⟨O,λd=>by have:=(hP _ d).2;omega⟩,O,y,i.gN (s _ _) id,hg⟩
end Go.Ar
namespace Go.Ar
open Go Go.Vc Go.Proofs
variable {σ u w w':Hp}{F B P Q:Rg}{L:dP}{H H':Hw}{t n k:Nat}{A:AR}{Y:Lay}
def Un (H:Hw)(x:Int):Option Bk:=if 0<=Ye H.bT x then(match H.bT[(Ye H.bT x).toNat]? with
 | some A=>(match Uj A x with
  | some (_,y)=>bV H.live (y:Int)
  | none=>none)
 | none=>none)else none
theorem TP (h:HH σ F L H)(x:Int)(hx:iF x)(hr:∀A∈H.bT,iO A){R:Int->Int->Int->Int->Int->Hp->Prop}
 (h1:∀b,Un H x=some b->∀σ',bO σ σ'->R b.1 b.2.1 b.2.2.1 b.2.2.2 0 σ') (h0:Un H x=none->∀σ',bO σ σ'->R 0 0 0 0 8 σ'):Zn.c (aW L.p) x σ R:=by
 refine Zn.o ?_;refine nw (cs:=[.int .i64 0,.int .i64 0,.int .i64 0,.int .i64 0]) λv hz e hb=>Kw (h.bK e) (cF rfl ?_);have z:∀{w:Hp} {a b c d y0 y1 y2 y3:Int} {K:Int->Int->Int->Int->Hp->Prop},bO σ w->bW w σ.size [.int .i64 y0,.int .i64 y1,.int .i64 y2,.int .i64 y3]->(∀m,bO σ m->K a b c d m) →
  dG (Addr.add ⟨σ.size,0,none⟩ 0) (.int .i64 a) w λv7=>dG (Addr.add ⟨σ.size,0,none⟩ 1) (.int .i64 b) v7 λv8=>dG (Addr.add ⟨σ.size,0,none⟩ 2) (.int .i64 c) v8 λv9=>dG (Addr.add ⟨σ.size,0,none⟩ 3) (.int .i64 d) v9 λv10=>
  eW .i64 (Addr.add ⟨σ.size,0,none⟩ 0) v10 λr0=>eW .i64 (Addr.add ⟨σ.size,0,none⟩ 1) v10 λr1=>eW .i64 (Addr.add ⟨σ.size,0,none⟩ 2) v10 λr2=>eW .i64 (Addr.add ⟨σ.size,0,none⟩ 3) v10 λr3=>K r0 r1 r2 r3 v10:=λew C hK=>
  C.s1 aA λv1 o1 b1=>b1.s1 aA λv2 o2 b2=>b2.s1 aA λv3 o3 b3=>b3.s1 aA λv4 o4 b4=>b4.rI rfl (b4.rI rfl (b4.rI rfl (b4.rI rfl (hK v4 ((((ew.only o1 (.inr (zC _))).only o2 (.inr (zC _))).only o3 (.inr (zC _))).only o4 (.inr (zC _)))))))
 refine qi (λw=>Un H x=none/\bO σ w/\bW w σ.size [.int .i64 0,.int .i64 0,.int .i64 0,.int .i64 0]) (λw ⟨hn,ew,C⟩=>z (K:=λa b c d m=>R a b c d 8 m) ew C λm e'=>h0 hn m e') λJ hJ=>?_;refine HC (h.bK e) x hx λv11 G=>?_;have e1:=e.trans G;have D:=G.cA hb id;refine cH (λP=>?_) λhlt=>hJ v11 ⟨by unfold Un;rw[zA O],e1,D⟩;have M:=Hx P;obtain⟨A,hA⟩:∃A,H.bT[(Ye H.bT x).toNat]?=some A:=⟨_,cL M.1⟩;have B:=h.bK e1;obtain⟨Y,hY,_,hAY⟩:=B.ar hA;have g:Un H x=(match Uj A x with
  | some (_,y)=>bV H.live (y:Int)
  | none=>none):=by unfold Un;rw[zB P,hA]
 rw[M.2];refine aG (B.hd.rS rfl (B.rA hY (E3 hAY (hr A (zE hA)) x hx (λE k y i hf=>?_) λE i hf=>?_)))
 ·rw[hf]at g;simp only at g;have e2:=e1.trans i;have S:=i.cA D id;have W:=h.bK e2;refine cJ rfl (aG (W.hd.rM rfl ⟨_,W.j0,?_⟩));refine nw (cs:=[.int .i64 0,.int .i64 0,.int .i64 0,.int .i64 0]) λv13 hz13 N Q=>?_;have hlt2:=S.lt;have r:σ.size≠E.size:=by omega
  refine Q.s1 aA λv14 Z b14=>b14.s1 aA λv15 aa b15=>b15.s1 aA λv16 V b16=>b16.s1 aA λv17 U j=>?_;have u:=Wp U (Wp V (Wp aa (Wp Z (N.cA S id) r) r) r) r;have s:=e2.1;have X:bO σ v17:=((((e2.trans N).only Z (.inr s)).only aa (.inr s)).only V (.inr s)).only U (.inr s);cases hm:bV H.live (y:Int)with
  | none=>
   rw[hm]at g;exact cF rfl (hJ v17 ⟨g,X,u⟩)
  | some b=>
   rw[hm]at g;have hgb:(bV H.live (y:Int)).getD ((0,0,0,0):Bk)=b:=by rw[hm];rfl
   rw[hgb]at j;refine cJ rfl (j.rI rfl (j.rI rfl (j.rI rfl (j.rI rfl ?_))));exact z (K:=λa b c d m=>R a b c d 0 m) X u λm e'=>h1 b g m e'
 ·rw[hf]at g;exact cF rfl (hJ E ⟨g,e1.trans i,i.cA D id⟩)
end Go.Ar
namespace Go.Ar
open Go.Vc (bV dE cT)
variable {H:Hw}{held:List Pc}{s0:Sp}{A:AR}
theorem Hd.find (ga:GA A){p:Pc}(hd:Hd A p){x:Nat}(h1:p.addr<=x)(h2:x<p.addr+p.size):Uj A (x:Int)=some (p.cls,p.addr):=by
 rcases hd with⟨c1,_,r,hr,e1,e2⟩|⟨j,c,c1,hc,e1,⟨c',ss,hcl,ht⟩,_⟩
 ·rw[c1,e1];exact HX ga hr O O
 ·have:=hcl.1;rw[hc]at this;cases this;obtain⟨l,s,i,b,d,e,_⟩:=(VT (ga.cC _ _ _ hcl)).1 ht;have a:p.addr=at_ c s i:=by omega
  rw[c1,a];exact BC ga hcl b d O O
theorem Hd.size (ga:GA A){p:Pc}(hd:Hd A p)(hpos:1<=p.size){x:Int}{k:Int}(hf:Uj A x=some (k,p.addr)):(p.addr:Int)<=x/\x<((p.addr+p.size:Nat):Int):=by
 have d:=hd.find ga (x:=p.addr) (zC _) O;rcases Gi ga hf with⟨rfl,r,hr,ha,h1,h2⟩|⟨j,c,ss,l,s,i,rfl,hc,hs,hi,ha,h1,h2⟩
 ·have m:=ga.gE r hr;have a:=HX ga hr (x:=p.addr) O O;rw[d]at a;have b:p.cls = -1:=congrArg Prod.fst (Option.some.inj a);rcases hd with⟨_,_,r',hr',e1,e2⟩|⟨j,c,c1,_⟩
  ·have g:=ga.gE r' hr';have u:=HF ga.kL hr (x:=r.1) O O;have e:=HF ga.kL hr' (x:=r.1) O O;rw[u]at e;cases e;omega
  ·omega
 ·have w:=ga.cC j c ss hc;have a:=BC ga hc hs hi (x:=p.addr) O (by have:=w.pos;omega);rw[d]at a;have b:p.cls=j:=congrArg Prod.fst (Option.some.inj a);rcases hd with⟨c1,_⟩|⟨j',c',c1,hc',e1,_⟩
  ·omega
  ·obtain rfl:j'=j:=by omega
   have:=hc.1;rw[hc']at this;cases this;omega
theorem GN (hi:HI H held s0)(x:Nat):(Un H (x:Int)).isSome=true↔∃e∈H.live,e.1<=(x:Int)/\(x:Int)<e.1+e.2.2.1:=by
 constructor
 ·intro a;obtain⟨b,a⟩:=pN.1 a;unfold Un at a;split at a
  ·split at a
   ·rename_i A hA;split at a
    ·rename_i k y hf;have G:=KK a;obtain⟨_,p,g,_,_,u,w,_⟩:=hi.lv _ G;simp only at u w;have J:=(hi.wi.size_pos g).1;have ga:=hi.wi.ga _ A hA;obtain⟨B,d,hd⟩:=hi.wi.hf p g;have E:p.addr=y:=by omega
     have N:A.f (y/256)=1:=by
      rcases Gi ga hf with⟨rfl,r,hr,u,h1,h2⟩|⟨j,c,ss,l,s,i,rfl,hc,w,hi',u,h1,h2⟩
      ·have:=ga.gE r hr;exact(ga.jd hr O O).1
      ·have F:=ga.cC j c ss hc;have m:=Hc (s:=s) F.pos hi' (x:=y) O (by have:=F.pos;omega);exact(ga.used hc (zE w) m.1 m.2).1
     have L:=hi.wi.nD g d (x:=y) O O;have D:=hi.wi.one (y/256) _ _ A B hA d O O;rw[D]at hA;have z:B=A:=Option.some.inj (d.symm.trans hA);subst z;rw[←E]at hf;have:=Hd.size ga hd O hf;exact⟨_,G,by simp only;omega,by simp only;omega⟩
    ·cases a
   ·cases a
  ·cases a
 ·rintro⟨e,he,h1,h2⟩;obtain⟨M,p,g,_,_,u,w,_⟩:=hi.lv e he;obtain⟨B,d,hd⟩:=hi.wi.hf p g;have K:=hi.owner g (x:=x) O O;have hf:=hd.find (hi.wi.ga _ B d) (x:=x) O O;unfold Un;rw[K,zB O,dC];have C:H.bT[p.k]?=some B:=d;rw[C];simp only;rw[hf];simp only;rw[u,Vm hi.lk (show(e.1,e.2)∈H.live from he)];rfl
def AU (live:List (Int×Bk))(p:Nat):Prop:=∃e∈live,e.1/256<=(p:Int)/\(p:Int)<=(e.1+e.2.2.1-1)/256
theorem RB (hi:HI H held s0)(p:Nat):AU H.live p↔∃k:Nat,k<32/\(Un H ((p*256+8*k:Nat):Int)).isSome=true:=by
 constructor
 ·rintro⟨e,a,b,d⟩;have g:=hi.iQ a;by_cases hlt:e.1<(p:Int)*256
  ·exact⟨0,O,(GN hi _).2 ⟨e,a,O,O⟩⟩
  ·exact⟨((e.1-(p:Int)*256)/8).toNat,O,(GN hi _).2 ⟨e,a,O,O⟩⟩
 ·rintro⟨k,hk,hb⟩;obtain⟨e,a,b,d⟩:=(GN hi _).1 hb;exact⟨e,a,O,O⟩
theorem GX (hi:HI H held s0){p:Nat}(h:AU H.live p):gf H.sp.st p≠0:=by
 obtain⟨e,b,g,i⟩:=h;have r:=hi.iQ b;obtain⟨d,q,a,_,_,j,m,_⟩:=hi.lv e b;by_cases hlt:e.1<(p:Int)*256
 ·have:=hi.mapped a (x:=p*256) O O
  rwa [show p*256/256=p by omega]at this
 ·have:=hi.mapped a (x:=q.addr) O O
  rwa [show q.addr/256=p by omega]at this
structure gg (l:List Bool) (k:Nat) (rs:List (Nat×Nat)):Prop where
 pos:∀r∈rs,1<=r.2/\r.1+r.2<=k
 lp:rs.Pairwise λa b=>a.1+a.2<b.1
 cN:∀p,gH rs p↔p<k/\l[p]?=some true
theorem gg.nil (l:List Bool):gg l 0 []:=⟨by simp,List.Pairwise.nil,λp=>⟨λ⟨r,a,_⟩=>by simp at a,λh=>O⟩⟩
theorem gg.skip {l:List Bool}{k:Nat}{rs:List (Nat×Nat)}(h:gg l k rs)(hk:l[k]?=some false):gg l (k+1) rs:=by
 refine⟨λr d=>by have:=h.pos r d;omega,h.lp,λp=>?_⟩;rw[h.cN];constructor
 ·exact λ⟨b,a⟩=>⟨O,a⟩
 ·rintro⟨b,a⟩;refine⟨?_,a⟩;by_cases he:p=k
  ·subst he;rw[hk]at a;cases a
  ·omega
theorem gg.grow {l:List Bool}{k s m:Nat}{rs:List (Nat×Nat)}(h:gg l k (rs++[(s,m)]))(hk:l[k]?=some true)(he:s+m=k):gg l (k+1) (rs++[(s,m+1)]):=by
 have w:=h.pos (s,m) aA;have e:=oe.1 h.lp;refine⟨λr d=>?_,?_,λp=>?_⟩
 ·rcases zP.1 d with d|d
  ·have:=h.pos r (mr _ d);omega
  ·rw[zS]at d;subst d;simp only;omega
 ·rw[oe];refine⟨e.1,yq _ _,λa j b g=>?_⟩;rw[zS]at g;subst g;exact e.2.2 a j (s,m) aA
 ·have i:=h.cN p;have u:gH (rs++[(s,m+1)]) p↔gH (rs++[(s,m)]) p\/p=k:=by
   unfold gH;constructor
   ·rintro⟨r,d,h3,h4⟩;rcases zP.1 d with d|d
    ·exact .inl ⟨r,mr _ d,h3,h4⟩
    ·rw[zS]at d;subst d;simp only at h3 h4;by_cases hpk:p=k
     ·exact .inr hpk
     ·exact .inl ⟨(s,m),by simp,h3,by simp only;omega⟩
   ·rintro(⟨r,d,h3,h4⟩|rfl)
    ·rcases zP.1 d with d|d
     ·exact⟨r,mr _ d,h3,h4⟩
     ·rw[zS]at d;subst d;exact⟨(s,m+1),by simp,h3,by simp only at h4 ⊢;omega⟩
    ·exact⟨(s,m+1),by simp,by simp only;omega,by simp only;omega⟩
  rw[u,i];constructor
  ·rintro(⟨h3,h4⟩|rfl)
   ·exact⟨O,h4⟩
   ·exact⟨O,hk⟩
  ·rintro⟨h3,h4⟩;by_cases hpk:p=k
   ·exact .inr hpk
   ·exact .inl ⟨O,h4⟩
theorem gg.new {l:List Bool}{k:Nat}{rs:List (Nat×Nat)}(h:gg l k rs)(hk:l[k]?=some true)(he:∀r,rs[rs.length-1]?=some r->r.1+r.2≠k):gg l (k+1) (rs++[(k,1)]):=by
 refine⟨λr d=>?_,?_,λp=>?_⟩
 ·rcases zP.1 d with d|d
  ·have:=h.pos r d;omega
  ·rw[zS]at d;subst d;simp only;omega
 ·rw[oe];refine⟨h.lp,yq _ _,λa x b w=>?_⟩;rw[zS]at w;subst w;simp only;obtain⟨i,s⟩:=zL x;have m:=(cS.1 s).1;have e:rs[rs.length-1]?=some rs[rs.length-1]:=cL O;have y:=he _ e;have u:=h.pos _ (zd (l:=rs) (n:=rs.length-1) O);by_cases hii:i=rs.length-1
  ·subst hii;rw[e]at s;cases s;omega
  ·have j:=zy.1 h.lp i (rs.length-1) m O O;have g:rs[i]=a:=by rw[cL m]at s;exact Option.some.inj s
   rw[g]at j;omega
 ·have u:gH (rs++[(k,1)]) p↔gH rs p\/p=k:=by
   unfold gH;constructor
   ·rintro⟨r,d,j,g⟩;rcases zP.1 d with d|d
    ·exact .inl ⟨r,d,j,g⟩
    ·rw[zS]at d;subst d;simp only at j g;exact .inr O
   ·rintro(⟨r,d,j,g⟩|rfl)
    ·exact⟨r,mr _ d,j,g⟩
    ·exact⟨(p,1),by simp,zC _,by simp only;omega⟩
  rw[u,h.cN p];constructor
  ·rintro(⟨j,g⟩|rfl)
   ·exact⟨O,g⟩
   ·exact⟨O,hk⟩
  ·rintro⟨j,g⟩;by_cases hpk:p=k
   ·exact .inr hpk
   ·exact .inl ⟨O,g⟩
theorem gg.len {l:List Bool}{k:Nat}{rs:List (Nat×Nat)}(h:gg l k rs):rs.length<=k:=by
 have key:∀(rs:List (Nat×Nat)) (lo:Nat),(∀r∈rs,1<=r.2/\r.1+r.2<=k)->rs.Pairwise (λa b=>a.1+a.2<b.1)->(∀r∈rs,lo<=r.1)->rs≠[]->rs.length+lo<=k:=by
  intro rs
  induction rs with
  | nil=>intro lo _ _ _ h;exact absurd rfl h
  | cons r rs ih=>
   intro lo h1 h2 h3 _;have g:=h1 r lB;have e:=h3 r lB;rw[mA]at h2;by_cases he:rs=[]
   ·subst he;simp only[sI];omega
   ·have:=ih (r.1+r.2) (λq d=>h1 q (lz _ d)) h2.2 (λq d=>by have:=h2.1 q d;omega) he;rw[zQ];omega
 by_cases he:rs=[]
 ·subst he;exact vM _
 ·have:=key rs 0 h.pos h.lp (λr _=>vM _) he;omega
end Go.Ar
namespace Go.Ar
open Go Go.Vc Go.Proofs
variable {σ v w:Hp}{s:Sl}{xs:List (Int×Int×Int)}
def Jj (c:bX)(size:Int):Int:=(c.size:Int)-size+(((c.tail+c.n-1)/c.n:Nat):Int)
def vS (xs:List (Int×Int×Int))(size align:Int):Int×Int:=if Qq xs then(if size<=16384/\KZ size align=true then(match gR (xs.map Z0) size align with
 | some k=>Jj ((xs.map Z0).getD k ⟨8,1,1⟩) size
 | none=>xS size-size,0)else(0,1))else(0,2)
theorem Ny (ha:gK σ s xs){i:Nat}{x y z:Int}(hx:xs[i]?=some (x,y,z)){K:Int->Prop}(hK:K x):Ix s.a s.len (i:Int) 3 λa=>eW .i64 (a.add 0) σ K:=by
 have g:=(cS.1 hx).1;obtain⟨j,h⟩:=ha;obtain⟨b,o,d,_,e,_⟩:=h i x y z hx;rw[d];refine ix O O (nV ?_ hK);rw[add_lit,add_lit];simpa using e
theorem OL {c:bX}(hc:c.ok):c.tail<=1024/\1<=c.n/\c.n<=128/\(c.tail+c.n-1)/c.n<=1200:=by
 have b:=hc.nL;have a:=hc.jX;have d:c.tail<=1024:=by unfold bX.tail;have:=hc.2.2.2.2.1;omega
 exact⟨d,b,a,zI (Nat.div_le_self _ _) O⟩
set_option maxRecDepth 8000 in
theorem TL (ha:gK σ s xs)(size align:Int){R:Int->Int->Hp->Prop}(hR:∀σ',bO σ σ'->R (vS xs size align).1 (vS xs size align).2 σ'):Qo.c s size align σ R:=by
 refine Qo.o ?_;refine Hq ha λv e=>?_;have z:=YR ha e;cases hv:Qq xs with
 | false=>
  have:=hR v e;unfold vS at this;rw[hv]at this;exact cJ rfl this
 | true=>
  refine cF rfl ?_;have fin:∀r,r = !decide (size<=16384/\KZ size align=true)->(r=true->R 0 1 v)/\(r=false->size<=16384/\KZ size align=true):=by
   intro r b;refine⟨λh=>?_,λh=>?_⟩
   ·have Y:¬(size<=16384/\KZ size align=true):=by rw[b,nj,decide_eq_false_iff_not]at h;exact h
    have:=hR v e;unfold vS at this;rw[hv,zB rfl,zA Y]at this;exact this
   ·rw[b]at h;simpa using h
  refine V6 (λr w=>v=w/\r=decide (size<1\/16384<size)) (λr w ⟨y,b⟩=>?_) λJ d=>cH (λh=>d _ _ ⟨rfl,(zU (.inl h)).symm⟩) λh=>d _ _ ⟨rfl,by rw[decide_eq_decide];omega⟩;subst y;refine V6 (λr p=>v=p/\r=decide (size<1\/16384<size\/align<1)) (λr p ⟨y,b⟩=>?_) λJ d=>cN (λh=>d _ _ ⟨rfl,by rw[b]at h;have:=ot h;exact(zU O).symm⟩) λh=>d _ _ ⟨rfl,by rw[b]at h;have:=rU h;rw[decide_eq_decide];omega⟩;subst y;refine V6 (λr p=>v=p/\r=decide (size<1\/16384<size\/align<1\/256<align)) (λr p ⟨y,b⟩=>?_) λJ d=>cN (λh=>d _ _ ⟨rfl,by rw[b]at h;have:=ot h;exact(zU O).symm⟩) λh=>d _ _ ⟨rfl,by rw[b]at h;have:=rU h;rw[decide_eq_decide];omega⟩;subst y;refine V6 (λr p=>v=p/\r = !decide (size<=16384/\KZ size align=true)) (λr p ⟨y,b⟩=>?_) λJ d=>cN (λh=>d _ _ ⟨rfl,?_⟩) λh=>?_
  ·subst y;obtain⟨f1,S⟩:=fin r b;refine cN f1 λV=>?_;obtain⟨U,j⟩:=S V;have hsz:1<=size:=by simp only[KZ,zF,zR]at j;exact j.1
   refine IE z hv size align λK P=>?_;have a:=λF (C:bO K F)=>hR F ((e.trans P).trans C);unfold vS at a;rw[hv,zB rfl,zB ⟨U,j⟩]at a;rw[j];cases hcl:gR (xs.map Z0) size align with
   | none=>
    rw[hcl]at a;refine cJ rfl (ar O O (ar O O (nz aB (ar (by rw[Xq O];omega) (by rw[Xq O];omega) ?_))));rw[Xq O];refine ar O O (ar O O ?_);have L:=a K (Ext.refl _ _);simp only[xS]at L;rw[show size+256-1=size+255 by omega];exact L
   | some k=>
    rw[hcl]at a;have Z:k<(xs.map Z0).length:=(yI.1 hcl).1;have x:(xs.map Z0)[k]?=some (xs.map Z0)[k]:=cL Z;generalize (xs.map Z0)[k]=c at x;have E:(xs.map Z0).getD k ⟨8,1,1⟩=c:=by rw[zN,x];rfl
    simp only[E]at a;obtain⟨G,i⟩:=UP z hv x;obtain⟨b1,b2,b3,b4⟩:=OL i;have B:=YR z P;have W:=i.2.1;refine cF rfl ?_;simp only[zV,px];refine Hj B G (UW _ _ _ (λg hc' N X Q F C=>?_) λu=>?_)
    ·have H:g=c:=by
      cases g;cases c;simp only[bX.mk.injEq]at *;omega
     subst H;obtain⟨q,D⟩:∃q,(g.tail+g.n-1)/g.n=q:=⟨_,rfl⟩;rw[D]at b4;unfold Jj at a;rw[D]at a;have A:=YR B C;refine Hj A G (F6 i λv8 M=>?_);refine Ny (YR A M) G (ar O O (bZ (m:=g.tail+g.n) O O (bZ (m:=g.tail+g.n-1) O O (nz O (bZ (m:=q) ?_ O (ar O O ?_))))))
     ·rw[Xq O,←D];exact(Int.natCast_ediv _ _).symm
     ·exact a v8 (C.trans M)
    ·rw[(UE c).2 i]at u;cases u
  ·rw[b]at h;have N:=ot h;have:¬(size<=16384/\KZ size align=true):=λ⟨X,Q⟩=>by
    simp only[KZ,zF,zR]at Q;omega
   rw[zb this];rfl
  ·rw[b]at h;have N:=rU h;refine ar O O (d _ _ ⟨rfl,?_⟩);rw[Ζ O O]
   congr 1
   rw[mX,zR];simp only[KZ,zF,zR];exact⟨λh=>⟨O,O,O,O,h⟩,λh=>h.2.2.2.2⟩
end Go.Ar
namespace Go.Ar
open Go Go.Vc Go.Proofs
open Go.Vc (bV dE cT)
variable {σ σ0 v w w':Hp}{F P Q X T:Rg}{L:dP}{H H':Hw}{held:List Pc}{s0:Sp}{t n:Nat}{g:Th}{mb am m:Nat}{x y:Me}{s:Sl}{xs:List (Int×Int×Int)}{bs:List Bk}
abbrev U6:=Int×Int×Int×Int×Int×Int
def uS (f:Bk->Int)(bs:List Bk)(c:Int):Int:=(bs.map λb=>if b.2.2.1=c then f b else 0).sum
def one (_:Bk):Int:=1
def oU (b:Bk):Int:=b.2.1
def oA (asked:List (Int×Int))(b:Bk):Int:=(bV asked b.1).getD 0
theorem BU {f:Bk->Int}{i:Nat}{b:Bk}(h:bs[i]?=some b)(c:Int):uS f (bs.take (i+1)) c=uS f (bs.take i) c+(if b.2.2.1=c then f b else 0):=by
 unfold uS;rw[zf,h];simp
theorem vd {f:Bk->Int}{k:Int}(hk:0<=k)(h:∀b∈bs,0<=f b/\f b<=k)(c:Int):0<=uS f bs c/\uS f bs c<=bs.length*k:=by
 refine U8 (f:=λb:Bk=>if b.2.2.1=c then f b else 0) λb a=>?_
 have:=h b a;split<;>omega
theorem CM {f:Bk->Int}{c:Int}:∀{bs:List Bk},uS one bs c=0->uS f bs c=0
 | [],_=>rfl
 | b::bs,h=>by
  have hp:=(vd (f:=one) (bs:=bs) (k:=1) O (λb _=>⟨by unfold one;omega,by unfold one;omega⟩) c).1;have d:uS one (b::bs) c=(if b.2.2.1=c then 1 else 0)+uS one bs c:=rfl
  have a:uS f (b::bs) c=(if b.2.2.1=c then f b else 0)+uS f bs c:=rfl
  rw[d]at h;by_cases hc:b.2.2.1=c
  ·rw[zB hc]at h;omega
  ·rw[zA hc]at h a;rw[a,CM O];omega
def qe (asked:List (Int×Int))(bs:List Bk)(c:Int):U6:=(c,0,uS one bs c,uS oU bs c,uS (oA asked) bs c,0)
def D3 (U:List (Int×U6))(asked:List (Int×Int))(bs:List Bk):Prop:=∀c,bV U c=if uS one bs c=0 then none else some (qe asked bs c)
theorem D3.q {U:List (Int×U6)}{asked:List (Int×Int)}(h:D3 U asked bs)(c:Int):∃a,(bV U c).getD (0,0,0,0,0,0)=(a,0,uS one bs c,uS oU bs c,uS (oA asked) bs c,0):=by
 rw[h c];split
 ·rename_i h0;exact⟨0,by rw[h0,CM h0,CM h0];rfl⟩
 ·exact⟨c,rfl⟩
def mC (tb:List bX)(j:Nat):Int:=if j=0 then 0 else((tb.getD (j-1) ⟨8,1,1⟩).size:Int)
def mJ (tb:List bX)(j:Nat)(l:Int):Int:=if j=0 then 0 else(l+((tb.getD (j-1) ⟨8,1,1⟩).n:Int)-1)/((tb.getD (j-1) ⟨8,1,1⟩).n:Int)
def sD (tb:List bX)(asked:List (Int×Int))(bs:List Bk)(j:Nat):Option U6:=if uS one bs ((j:Int)-1)=0 then none else
 some ((j:Int)-1,mC tb j,uS one bs ((j:Int)-1),uS oU bs ((j:Int)-1),uS (oA asked) bs ((j:Int)-1),mJ tb j (uS one bs ((j:Int)-1)))
def qY (tb:List bX)(asked:List (Int×Int))(bs:List Bk)(m:Nat):List U6:=(List.range m).filterMap (sD tb asked bs)
def oJ (r:U6):List Value:=[.int .i64 r.1,.int .i64 r.2.1,.int .i64 r.2.2.1,.int .i64 r.2.2.2.1,.int .i64 r.2.2.2.2.1,.int .i64 r.2.2.2.2.2]
def nv (l:List U6):List Value:=l.flatMap oJ
theorem Wl9 (tb:List bX)(asked:List (Int×Int))(bs:List Bk)(m:Nat):qY tb asked bs (m+1)=qY tb asked bs m++(sD tb asked bs m).toList:=by
 unfold qY;rw[zw,vw];cases h:sD tb asked bs m<;>simp[h]
theorem Wn0 (tb:List bX)(asked:List (Int×Int))(bs:List Bk)(m:Nat):(qY tb asked bs m).length<=m:=by
 have:=List.length_filterMap_le (sD tb asked bs) (List.range m);rw[oW]at this;exact this
theorem Df (l:List U6):(nv l).length=l.length*6:=by
 unfold nv
 induction l with
 | nil=>rfl
 | cons b bs ih=>rw[mM,zJ,ih];simp[oJ];omega
theorem PN (ha:gK σ s xs){i:Nat}{x y z:Int}(hx:xs[i]?=some (x,y,z)){K:Int->Prop}(hK:K x):Ix s.a s.len (i:Int) 3 λa=>gT (λm=>bO σ m) bN (a.add 0) K:=by
 have p:=(cS.1 hx).1;obtain⟨r,h⟩:=ha;obtain⟨b,o,e,_,g,_⟩:=h i x y z hx;rw[e];refine ix O O ⟨x,λm j=>?_,hK⟩;have d:cell σ ⟨b,o+(i:Int).toNat*3+0,none⟩=some (.int .i64 x):=by simpa using g
 rw[add_lit,add_lit,QV j (Q2 d) id];exact d
theorem Cb {k:IntKind}{c:CK}{r:Nat}{l:List (Int×c.T)}{n:Int}{o:Option c.T}{K:Option c.T->Prop}(hm:dN σ r k c l)(h:bV l n=o)(hK:K o):Lk k c (some r) n σ K:=⟨l,hm,by rw[h];exact hK⟩
def uZ:List Value:=[.int .i64 0,.int .i64 0,.int .i64 0,.int .i64 0,.int .i64 0,.int .i64 0]
set_option maxRecDepth 16000 in
theorem M9 (p:MP σ0 σ L H held s0 P mb am x)(mi:ly x){R:Sl->Hp->Prop}
 (hR:∀s w bs,bO σ w->jG H.live bs->bR s 6 (nv (qY H.tb x.asked bs (H.tb.length+1))) w (λb=>σ.size<=b)->R s w):Yz.c (aW mb) σ R:=by
 refine Yz.o ?_;refine A3 p (cF rfl (aG (p.b.rP rfl (IS p.h p.h.ng λdF D e1 W=>ta λY hz2 e2 m2=>aG ?_))));have e12:=e1.trans e2;have p2:=p.fr e12;refine p2.b.rP rfl (EK p2.h p.hi λs v3 bs e3 hl hrow=>?_);have e03:=e12.trans e3;have p3:=p.fr e03;have m3:dN v3 D.size .i64 (.ag 6) []:=e3.gN (m2 _ _) id;have hub:σ.size<=D.size:=e1.1;have hsl:s.len=bs.length:=by have:=hrow.1;rw[HY]at this;omega
 have hbl:bs.length<=1000000:=by rw[hl.len];exact p.hi.iP
 have hb1:∀b∈bs,0<=oU b/\oU b<=270000:=λb hb=>by
  have:=p.hi.iQ ((hl.mem b).1 hb);unfold oU;simp only at this;omega
 have hb2:∀b∈bs,0<=oA x.asked b/\oA x.asked b<=16384:=λb hb=>by
  unfold oA;cases hm:bV x.asked b.1 with
  | none=>exact⟨rp _,by decide⟩
  | some z=>exact mi.v _ (KK hm)
 have hb0:∀b∈bs,0<=one b/\one b<=1:=λb hb=>⟨by unfold one;omega,by unfold one;omega⟩;have hacts:gK v3 dF (H.tb.map j9):=YR (Az W) (e2.trans e3);have htl:dF.len=H.tb.length:=by have:=W.1;rw[KG]at this;omega
 refine ZP (a:=bN) (λ(i:Int) w=>∃(k:Nat) (U:List (Int×U6)),i=k/\k<=bs.length/\Ext (· = D.size) v3 w/\dN w D.size .i64 (.ag 6) U/\D3 U x.asked (bs.take k)) (λi _=>bs.length-i.toNat) ⟨0,[],rfl,O,Ext.refl _ _,m3,λc=>rfl⟩ ?_;rintro(i:Int) w ⟨k,U,rfl,hk,e,hm,hU⟩;have pw:MP σ0 w L H held s0 P mb am x:=p3.out e λq _ (hq:q=D.size)=>by
  have h1:=p.b.lt;have h2:=p.m.lt;have h3:=p.e.1;exact⟨λhP=>by have:=(p.pP q hP).2;omega,O,O,O⟩
 refine cH (λhlt=>?_) λhge=>?_
 ·have hk':k<bs.length:=by omega
  have hg:bs[k]?=some bs[k]:=cL _;generalize bs[k]=b at hg;have hbm:=zE hg;have q0:=hb0 b hbm;have q1:=hb1 b hbm;have q2:=hb2 b hbm;have hlk:(bs.take k).length=k:=by rw[zO];omega
  have l0:=vd (bs:=bs.take k) O (λb h=>hb0 b (m7 h)) b.2.2.1;have l1:=vd (bs:=bs.take k) O (λb h=>hb1 b (m7 h)) b.2.2.1;have l2:=vd (bs:=bs.take k) O (λb h=>hb2 b (m7 h)) b.2.2.1;rw[hlk]at l0 l1 l2;have n0:=λc=>BU (f:=one) hg c;have n1:=λc=>BU (f:=oU) hg c;have n2:=λc=>BU (f:=oA x.asked) hg c;obtain⟨a0,hq⟩:=hU.q b.2.2.1;have hrw:cP s 4 (ja bs) w (λq=>Y.size<=q):=bR.fP (aI.bU hrow e λq _ (h1:Y.size<=q) (h2:q=D.size)=>O);refine DM hrw hg λbb o hc=>dJ (hc 0 _ rfl) (dJ (hc 1 _ rfl) (dJ (hc 2 _ rfl) (dJ (hc 3 _ rfl) ?_)));refine nw (cs:=[.int .i64 0,.int .i64 0,.int .i64 0,.int .i64 0]) λu2 hz2 f2 c2=>c2.s1 aA λu3 o3 c3=>c3.s1 aA λu4 o4 c4=>c4.s1 aA λu5 o5 c5=>c5.s1 aA λu6 o6 c6=>?_;have f6:bO w u6:=Ext.fresh (Ext.fresh (Ext.fresh (Ext.fresh f2 o3.ext λi hi=>O) o4.ext λi hi=>O) o5.ext λi hi=>O) o6.ext λi hi=>by omega
  have hm6:=f6.gN hm id;obtain⟨mu,M⟩:∃mu,bV U b.2.2.1=mu:=⟨_,rfl⟩;rw[M]at hq;refine c6.rI rfl (Cb hm6 M ?_);rw[hq];refine nw (cs:=uZ) λu7 hz7 f7 d7=>?_;unfold uZ at d7;refine d7.s1 aA λu8 o8 d8=>d8.s1 aA λu9 o9 d9=>d9.s1 aA λu10 fW X=>X.s1 aA λu11 K G=>G.s1 aA λu12 C E=>E.s1 aA λu13 V B=>?_;have d:bO u6 u13:=Ext.fresh (Ext.fresh (Ext.fresh (Ext.fresh (Ext.fresh (Ext.fresh f7 o8.ext λi hi=>O) o9.ext λi hi=>O) fW.ext λi hi=>O) K.ext λi hi=>O) C.ext λi hi=>O) V.ext λi hi=>by omega
  have c13:=d.cA c6 id;have hne:∀{u u':Hp},QJ u u' u6.size->bW u w.size (mZ b)->bW u' w.size (mZ b):=λo h=>o.ext.cA h λ(hx:w.size=u6.size)=>by have:=c6.lt;omega
  refine c13.rI rfl (B.s1 aA λu14 aa N=>N.rI rfl (ar aC aC (N.s1 aA λu15 ab Z=>Z.rI rfl ?_)));have c15:bW u15 w.size (mZ b):=hne ab (hne aa c13);refine c15.rI rfl (ar (by show _<=uS oU (bs.take k) b.2.2.1+oU b;omega) (by show uS oU (bs.take k) b.2.2.1+oU b<=_;omega) (Z.s1 aA λu16 o16 d16=>d16.rI rfl (aG ?_)));have c16:=hne o16 c15;have f16:bO w u16:=Ext.fresh (Ext.fresh (Ext.fresh (f6.trans d) aa.ext λi hi=>by have:=f6.1;omega) ab.ext λi hi=>by have:=f6.1;omega) o16.ext λi hi=>by have:=f6.1;omega
  have p16:=pw.fr f16;refine p16.b.rM rfl (c16.rI rfl ⟨x.asked,p16.m,ar (by show _<=uS (oA x.asked) (bs.take k) b.2.2.1+oA x.asked b;omega) (by show uS (oA x.asked) (bs.take k) b.2.2.1+oA x.asked b<=_;omega) (d16.s1 aA λu17 o17 A=>?_)⟩);have c17:=hne o17 c16;have f17:bO w u17:=Ext.fresh f16 o17.ext λi hi=>by have:=f6.1;omega
  refine c17.rI rfl (A.rI rfl (A.rI rfl (A.rI rfl (A.rI rfl (A.rI rfl (A.rI rfl ⟨D.size,U,rfl,f17.gN hm id,λu18 o18 m18=>?_⟩))))));refine bZ (m:=k+1) O O ⟨⟨k+1,_,rfl,O,?_,m18,?_⟩,O⟩
  ·exact(e.trans (bO.to f17)).trans o18.ext
  ·intro c;have hp0:=(vd (bs:=bs.take k) O (λb h=>hb0 b (m7 h)) c).1;rw[D4];by_cases S:c=b.2.2.1
   ·subst S;have e0:=n0 b.2.2.1;have e1:=n1 b.2.2.1;have e2:=n2 b.2.2.1;rw[zB rfl]at e0 e1 e2;have:¬uS one (bs.take (k+1)) b.2.2.1=0:=by rw[e0];unfold one at *;omega
    rw[zB rfl,zA this];unfold qe;rw[e0,e1,e2];rfl
   ·have hne':¬b.2.2.1=c:=λh=>S h.symm;have e0:=n0 c;have e1:=n1 c;have e2:=n2 c;rw[zA hne',Int.add_zero]at e0 e1 e2;rw[zA S,hU c];unfold qe;rw[e0,e1,e2]
 ·have hkk:k=bs.length:=by omega
  subst hkk;rw[zm]at hU;have r:=Az W;have hactw:gK w dF (H.tb.map j9):=DE hacts e λq (hq:q=D.size) o ha=>by
   obtain⟨_,hc⟩:=r;cases htb0:H.tb with
   | nil=>have:=p.cf.2.2;unfold lR at this;rw[htb0]at this;exact absurd this aB
   | cons c0 r0=>
    obtain⟨b',o',h1,h2,_⟩:=hc 0 c0.size c0.aF c0.batch (by rw[htb0];rfl);rw[ha]at h1;simp only[Option.some.injEq,Addr.mk.injEq]at h1;omega
  refine Kh (a:=.s) (bb:=bN) (λ(out:Sl) (c:Int) u=>∃j:Nat,c=(j:Int)-1/\j<=H.tb.length+1/\Ext (λq=>Y.size<=q) w u/\bR out 6 (nv (qY H.tb x.asked bs j)) u (λq=>Y.size<=q)) (λ_ c _=>(H.tb.length+1)-(c+1).toNat) ⟨0,rfl,O,Ext.refl _ _,⟨rfl,.inl ⟨rfl,rfl⟩⟩⟩ ?_;rintro(out:Sl) (c:Int) u ⟨j,rfl,hj,eu,hout⟩;have ht40:=p.h.ng;have hwz:=e.1;have h3z:=e3.1;have huz:=eu.1;have hlen:=Wn0 H.tb x.asked bs j;have hol:out.len<=j:=by have:=hout.1;rw[Df]at this;omega
  refine cH (λhlt=>?_) λhge=>?_
  ·have M:dN u D.size .i64 (.ag 6) U:=eu.gN hm λ(hx:Y.size<=D.size)=>by omega
   have g:=Wl9 H.tb x.asked bs j;by_cases h0:uS one bs ((j:Int)-1)=0
   ·have hU0:bV U ((j:Int)-1)=none:=by rw[hU,zB h0]
    have hrow0:sD H.tb x.asked bs j=none:=by unfold sD;rw[zB h0]
    rw[hrow0]at g;refine Cb M hU0 ?_;refine nw (cs:=uZ) λu7 hz7 f7 d7=>?_;unfold uZ at d7;refine d7.s1 aA λu8 o8 d8=>d8.s1 aA λu9 o9 d9=>d9.s1 aA λu10 fW X=>X.s1 aA λu11 K G=>G.s1 aA λu12 C E=>E.s1 aA λu13 V B=>?_;have d:bO u u13:=Ext.fresh (Ext.fresh (Ext.fresh (Ext.fresh (Ext.fresh (Ext.fresh f7 o8.ext λi hi=>O) o9.ext λi hi=>O) fW.ext λi hi=>O) K.ext λi hi=>O) C.ext λi hi=>O) V.ext λi hi=>by omega
    refine cJ rfl (ar O O ⟨⟨j+1,O,O,eu.trans (bO.to d),?_⟩,O⟩);rw[g];simp only[Option.toList,km];exact aI.bK hout d
   ·have hU1:bV U ((j:Int)-1)=some (qe x.asked bs ((j:Int)-1)):=by rw[hU,zA h0]
    have hrow1:sD H.tb x.asked bs j=some ((j:Int)-1,mC H.tb j,uS one bs ((j:Int)-1),uS oU bs ((j:Int)-1),uS (oA x.asked) bs ((j:Int)-1),mJ H.tb j (uS one bs ((j:Int)-1))):=by unfold sD;rw[zA h0]
    rw[hrow1]at g;have l0:=vd (bs:=bs) O hb0 ((j:Int)-1);unfold qe at hU1;generalize uS one bs ((j:Int)-1)=ul at *;generalize uS oU bs ((j:Int)-1)=ub at *;generalize uS (oA x.asked) bs ((j:Int)-1)=ua at *;refine Cb M hU1 ?_;refine nw (cs:=uZ) λu7 hz7 f7 d7=>?_;unfold uZ at d7;refine d7.s1 aA λu8 o8 d8=>d8.s1 aA λu9 o9 d9=>d9.s1 aA λu10 fW X=>X.s1 aA λu11 K G=>G.s1 aA λu12 C E=>E.s1 aA λu13 V B=>?_;have d:bO u u13:=Ext.fresh (Ext.fresh (Ext.fresh (Ext.fresh (Ext.fresh (Ext.fresh f7 o8.ext λi hi=>O) o9.ext λi hi=>O) fW.ext λi hi=>O) K.ext λi hi=>O) C.ext λi hi=>O) V.ext λi hi=>by omega
    refine cF rfl (qi (λq=>bO u q/\bW q u.size (oJ ((j:Int)-1,mC H.tb j,ul,ub,ua,mJ H.tb j ul))) (λq ⟨eq,bq⟩=>?_) λJ hJ=>?_)
    ·refine bq.rI rfl (bq.rI rfl (bq.rI rfl (bq.rI rfl (bq.rI rfl (bq.rI rfl ?_)))));refine bR.push (F:=λq=>Y.size<=q) (vs:=oJ ((j:Int)-1,mC H.tb j,ul,ub,ua,mJ H.tb j ul)) (aI.bK hout eq) (λb hb=>by have:=eq.1;show Y.size<=b;omega) rfl rfl (by simp[oJ,dM]) O O λs' u' hsl eu' hrow'=>?_;refine ar O O ⟨⟨j+1,O,O,(eu.trans (bO.to eq)).trans eu',?_⟩,O⟩;rw[g];have:nv (qY H.tb x.asked bs j++(some ((j:Int)-1,mC H.tb j,ul,ub,ua,mJ H.tb j ul)).toList)=nv (qY H.tb x.asked bs j)++oJ ((j:Int)-1,mC H.tb j,ul,ub,ua,mJ H.tb j ul):=by simp[nv]
     rw[this];exact hrow'
    ·refine cH (λhc0=>?_) λhc0=>?_
     ·obtain⟨k,rfl⟩:∃k,j=k+1:=⟨j-1,O⟩;have hck:(((k+1:Nat):Int)-1)=(k:Int):=by omega
      rw[hck]at B hJ ⊢;have hkt:k<H.tb.length:=by omega
      have hcl:H.tb[k]?=some H.tb[k]:=cL _;have hco:bX.ok H.tb[k]:=p.hi.ok _ (zd hkt);have hgd:H.tb.getD (k+1-1) ⟨8,1,1⟩=H.tb[k]:=by rw[Ds,zN,hcl];rfl
      have hsz:mC H.tb (k+1)=(H.tb[k].size:Int):=by unfold mC;rw[zA O,hgd]
      have hsp:mJ H.tb (k+1) ul=(ul+(H.tb[k].n:Int)-1)/(H.tb[k].n:Int):=by unfold mJ;rw[zA O,hgd]
      rw[hsz,hsp]at hJ;generalize H.tb[k]=cl at hcl hco hJ;have hx:(H.tb.map j9)[k]?=some ((cl.size:Int),(cl.aF:Int),(cl.batch:Int)):=by rw[ze,hcl];rfl
      have Q:gK u13 dF (H.tb.map j9):=YR (DE hactw eu λq (hq:Y.size<=q) o ha=>by
       obtain⟨_,hc⟩:=r;obtain⟨b',o',h1,h2,_⟩:=hc k _ _ _ hx;rw[ha]at h1;simp only[Option.some.injEq,Addr.mk.injEq]at h1;omega) d
      have n1:=hco.nL;have n2:=hco.jX;refine Hj Q hx (UW _ _ _ (λc' hc' h1 h2 h3 v7 e7=>?_) λhbad=>?_)
      ·have S:c'=cl:=by
        cases c';cases cl;simp only[bX.mk.injEq]at *;omega
       subst S;have N:=e7.cA B id;refine⟨λm=>bO v7 m,Ext.refl _ _,PN (YR Q e7) hx (bW.rH (c:=bN) (y:=ul) N rfl (ar O O (ar O O (nz O ?_))))⟩;have hq0:0<=(ul+(c'.n:Int)-1)/(c'.n:Int):=Int.ediv_nonneg O O;have hq1:(ul+(c'.n:Int)-1)/(c'.n:Int)<=ul+(c'.n:Int)-1:=Int.ediv_le_self _ O;rw[Xq O];generalize (ul+(c'.n:Int)-1)/(c'.n:Int)=qq at hq0 hq1 hJ ⊢;refine ar O O (N.s1 aA λu14 aa Z=>Z.s1 aA λu15 ab d16=>hJ u15 ⟨?_,d16⟩);exact Ext.fresh (Ext.fresh (d.trans e7) aa.ext λi hi=>O) ab.ext λi hi=>by omega
      ·rw[(UE cl).2 hco]at hbad;cases hbad
     ·have hj0:j=0:=by omega
      subst hj0;exact hJ u13 ⟨d,B⟩
  ·have hjj:j=H.tb.length+1:=by omega
   subst hjj;refine hR out u bs (Ext.fresh (Ext.fresh e03 e λi (hi:i=D.size)=>O) eu λi (hi:Y.size<=i)=>O) hl (aI.mono hout λq _ (hq:Y.size<=q)=>by show σ.size<=q;omega)
end Go.Ar
namespace Go.Proofs
open Go.Vc
set_option maxRecDepth 100000
def Xm.h:Hn:=.q .o1 (.q .o2 (.q (.q .o2 .aK) (.q .o7 (.q (.q (.cV (.seq [.op,.op,.op,.dA false 2 [.op,.op]])) .aK) (.q .o7 (.q .o4 (.q .o8 (.q (.cV (.seq [.op,.op,.op,.dA true 3 (RI.ops 3),.op,.dA true 3 (RI.ops 3),.op,.dA true 3 (RI.ops 3),.op,.dA true 5 (RI.ops 5),.op,.dA true 2 [.op,.op],.op,.dA true 2 [.op,.op],.op])) .l))))))))
theorem Xm.o {a:Hp}{b:aO}(c:XI.c a λc d=>If c.isNone (b false d) (QP.c c d λe f g=>bY (λh i=>If h (b false i) (XF.c e 0 20 8 i λj k l=>XH.c e l λm n o p q r s t u v w=>aV #[.I 0,.I 0,.I 0,.I 0,.I 0,.I 0,.I 0,.I 0,.I 0,.I 0] 56 w λx y=>aR x 0 (.I m) y λz=>aR x 1 (.I n) z λaa=>aR x 2 (.I o) aa λab=>aR x 3 (.I p) ab λac=>aR x 4 (.I q) ac λad=>aR x 5 (.I r) ad λae=>aR x 6 (.I s) ae λaf=>aR x 7 (.I t) af λag=>aR x 8 (.I u) ag λah=>aR x 9 (.I v) ah λai=>Y3.c c ai λaj ak=>Qo.c aj 20 8 ak λal am an=>bY (λao ap=>bY (λaq ar=>bY (λau av=>bY (λaw ax=>bY (λay az=>bY (λa0 a1=>b a0 a1) λa2=>If ay (a2 (am==0) az) (a2 false az)) λa3=>If aw (a3 (al==6) ax) (a3 false ax)) λa4=>If au (Yz.c e av λa5 a6=>aV #[.I 2,.I 24,.I 1,.I 24,.I 20,.I 1] 80 a6 λa7 a8=>Yc.c a5 ⟨some a7,1,1⟩ a8 λa9 ba=>a4 a9 ba) (a4 false av)) λbb=>If aq (aQ x 7 ar λbc=>bb (bc==1) ar) (bb false ar)) λbd=>If ao (aQ x 1 ap λbe=>bd (be==24) ap) (bd false ap)) λbf=>If (k==0) (aQ x 0 an λbg=>bf (bg==20) an) (bf false an))) λbh=>If (f != 0) (bh true g) (bh e.isNone g))):Xm.c a b:=Wa Tryz.func13 (x:=Xm.h) (R0 c)
def Yb.h:Hn:=.q .o2 (.q (.q (.cV (.seq [.op,.op,.op,.dA false 3 (RI.ops 3)])) .aK) (.q .o3 (.q (.q .o2 .aK) (.q .o7 (.q (.q (.cV (.seq [.op,.op,.op,.dA false 2 [.op,.op]])) .aK) (.q .o5 (.q (.q .o1 (.k (.loop [(11,.I)] (.q (.q .o4 (.c .l .l)) (.q (.k .o6) .o3))))) .aL)))))))
theorem Yb.o {a b c d e f:Int}{g:Sl}{h:Int}{i:Hp}{j:Option Addr->Hp->Prop}(k:aV #[.I a,.I b,.I c,.I d,.I e,.I f] 65 i λk l=>aQ k 0 l λm=>aQ k 1 l λn=>aQ k 2 l λo=>aQ k 3 l λp=>aQ k 4 l λq=>aQ k 5 l λr=>WQ.c m n o p q r l λs t=>bY (λu v=>If u (j none v) (aQ k 0 v λw=>aQ k 1 v λx=>aQ k 2 v λy=>aQ k 3 v λz=>aQ k 4 v λaa=>aQ k 5 v λab=>Wu.c w x y z aa ab v λac ad=>If ac.isNone (j none ad) (QP.c ac ad λae af ag=>bY (λah ai=>If ah (j none ai) (aV #[.pointer ac,.pointer ae,.slice none 0 0,.slice none 0 0,.I 0] 72 ai λaj ak=>WR [bN] (λal=>al 0 ak) λam (an:Int) ao=>If (an<((g.len:Nat):Int)) (Ix g.a g.len an 8 λap=>aQ ap 0 ao λaq=>aQ ap 1 ao λar=>aQ ap 2 ao λau=>aQ ap 3 ao λav=>aQ ap 4 ao λaw=>aQ ap 5 ao λax=>aQ ap 6 ao λay=>bC ap 7 ao λaz=>Xo.c (some aj) aq ar au av aw ax ay az ao λa0 a1=>bL (an+1) λa2=>am a2 a1) (j (some aj) ao))) λa3=>If (af != 0) (a3 true ag) (a3 ae.isNone ag)))) λa4=>If s (a4 true t) (X7.c g h t λa5 a6=>a4 a5 a6)):Yb.c a b c d e f g h i j:=Wa Tryz.func30 (x:=Yb.h) (R0 k)
def WM.h:Hn:=.q .o1 (.q .o1 (.q (.q .o1 (.k (.loop [(3,.I),(4,.I)] (.q (.q .o7 (.c .l .l)) (.q (.k (.o 11)) .o3))))) .aL))
theorem WM.o {a:R2}{b:Hp}{c:aN}(d:WR [bN,bN] (λd=>d 0 0 b) λe (f:Int) (g:Int) h=>bQ a λi=>aX i 3 h λj=>If (g<((j.len:Nat):Int)) (bE a 3 h λl=>Ix l.a l.len g 3 λm=>aQ m 1 h λn=>bL (f+n) λo=>bL (g+1) λp=>e o p h) (c f h)):WM.c a b c:=Wa Tryz.func32 (x:=WM.h) (R0 d)
def Xo.h:Hn:=.q .o2 (.q (.cV (.tail 5 (RI.ops 5) [.op,.op])) (.q (.q .o2 (.k (.q .o2 (.c (.q (.cV (.held true [10] (.tk [0,1,2,3,4,5,6,7,8,9] (.all [(10,.tk [11,12,13,14,15] (.done))])))) (.q (.q .o2 (.c (.q (.o 11) (.q (.cV (.held true [15] (.tk [0,1,2,3,4,5,6,7,8,9,10] (.all [(11,.all [(12,.take 13 (.take 14 (.all [(15,.done)])))])])))) (.cV (.held true [10] (.take 0 (.take 1 (.take 2 (.take 3 (.take 4 (.take 5 (.all [(6,.take 7 (.take 8 (.take 9 (.all [(10,.done)]))))]))))))))))) .l)) .aL)) (.q .o2 (.c (.q (.cV (.tail 7 (RI.ops 7) [.op,.op])) (.q (.q .o2 (.c (.q .o1 (.q (.q .o1 (.k (.loop [(9,.one .s),(10,.I)] (.q (.q .o7 (.c .l .l)) (.q (.k (.q .fW (.c (.o 11) .l))) .o3))))) .o5)) .l)) .aL)) (.jc [(122,.one .b)] (.q .o2 (.c .l (.q .o2 (.c .l (.q .o2 (.c .l (.q .o2 (.c .l .o2)))))))) (.c (.q (.cV (.held true [9] (.take 0 (.take 1 (.take 2 (.take 3 (.take 4 (.take 5 (.take 6 (.take 7 (.take 8 (.all [(9,.take 10 (.take 11 (.take 12 (.take 13 (.take 14 (.take 15 (.take 16 (.done))))))))])))))))))))) .aL) .l)))))))) .aM))
theorem Xo.o {a:R2}{b c d e f g h:Int}{i:ByteArray}{j:Hp}{k:aN}(l:aV #[.I b,.I c,.I d,.I e,.I f,.I g,.I h,.string i] 87 j λl m=>bE a 2 m λo=>aQ l 0 m λp=>aQ l 1 m λq=>aQ l 2 m λr=>aQ l 3 m λs=>aQ l 4 m λt=>aQ l 5 m λu=>aQ l 6 m λv=>bC l 7 m λw=>Yo.c o p q r s t u v w m λx y=>aQ l 0 y λz=>If (z==120) (dW y λaa=>bQ a λab=>aU aa ab 1 λac=>aS aa l 1 λad=>aS aa l 2 λae=>aS aa l 3 λaf=>XF.c ac ad ae af y λag ah ai=>If (ah==0) (bE a 2 ai λak=>aV #[.I ag] 3 ai λal am=>App ak 1 8 3 [.I 0] ⟨some al,1,1⟩ am λan ao=>bQ a λap=>aR ap 2 (.slice an.a an.len an.cap) ao λaq=>dW aq λar=>bQ a λau=>aT ar au 3 λav=>aS ar l 2 λaw=>aS ar l 3 λax=>aV #[.I ag,.I aw,.I ax] 83 aq λay az=>And (ar az) <| App av 3 24 83 [.I 0,.I 0,.I 0] ⟨some ay,1,1⟩ az λa0 a1=>And (ar a1) <| bQ a λa2=>aR a2 3 (.slice a0.a a0.len a0.cap) a1 λa3=>dW a3 λa4=>bQ a λa5=>aS a4 a5 4 λa6=>WM.c a a3 λa7 a8=>And (a4 a8) <| bQ a λa9=>aR a9 4 (.I (if a7>a6 then a7 else a6)) a8 λba=>k ah ba) (k ah ai)) (If (z==121) (bF a 1 y λbc=>aQ l 1 y λbd=>Ze.c bc bd x y λbe bf=>
 If (be==0) (WR [.s,bN] (λbg=>bg ⟨none,0,0⟩ 0 bf) λbh (bi:Sl) (bj:Int) bk=>bE a 3 bk λbm=>If (bj<((bm.len:Nat):Int)) (bE a 3 bk λbo=>Ix bo.a bo.len bj 3 λbp=>aQ bp 0 bk λbq=>If (bq != x) (bE a 3 bk λbs=>Ix bs.a bs.len bj 3 λbt=>aQ bt 0 bk λbu=>aQ bt 1 bk λbv=>aQ bt 2 bk λbw=>aV #[.I bu,.I bv,.I bw] 83 bk λbx bz=>App bi 3 24 83 [.I 0,.I 0,.I 0] ⟨some bx,1,1⟩ bz λb0 b1=>bL (bj+1) λb2=>bh b0 b2 b1) (bL (bj+1) λb3=>bh bi b3 bk)) (bQ a λb4=>aR b4 3 (.slice bi.a bi.len bi.cap) bk λb5=>k be b5)) (k be bf)) (Jn [.b] (λ(b6:Bool) b7=>If b6 (dW b7 λb8=>bQ a λb9=>aU b8 b9 0 λca=>bQ a λcb=>aT b8 cb 2 λcc=>aS b8 l 0 λcd=>aS b8 l 1 λce=>aS b8 l 2 λcf=>aS b8 l 3 λcg=>aS b8 l 4 λch=>aS b8 l 5 λci=>aS b8 l 6 λcj=>gT b8 .str (l.add 7) λ(ck:ByteArray)=>Zf.c ca cc cd ce cf cg ch ci cj ck b7 λcl cm cn co=>k cm co) (k 0 b7)) λcp=>If (z==2) (cp (z==2) y) (If (z==3) (cp (z==3) y) (If (z==8) (cp (z==8) y) (If (z==9) (cp (z==9) y) (cp (z==10) y))))))):Xo.c a b c d e f g h i j k:=Wa Tryz.func35 (x:=Xo.h) (R0 l)
def Xp.h:Hn:=.q .o1 (.q .o2 (.jc [(2,.I),(7,.one .s)] (.q .o4 (.c .o7 .l)) (.q (.oq 20) .l)))
theorem Xp.o {a b:Sl}{c:Int}{d:Hp}{e:aO}(f:Jn [bN,.s] (λ(f:Int) (g:Sl) h=>bL (f-1) λi=>Ix g.a g.len i 2 λj=>aQ j 0 h λk=>bL (f-1) λl=>Ix g.a g.len l 2 λm=>aQ m 1 h λn=>bL (k+n) λo=>Ix g.a g.len f 2 λp=>aQ p 0 h λq=>e (decide (o≥q)) h) λr=>If (c≥((a.len:Nat):Int)) (bL (c-((a.len:Nat):Int)) λs=>r s b d) (r c a d)):Xp.c a b c d e:=Wa Tryz.func37 (x:=Xp.h) (R0 f)
end Go.Proofs
namespace Go.Proofs
open Go.Vc
set_option maxRecDepth 100000
def Yc.h:Hn:=.q .o1 (.q (.q .o5 .aK) (.q (.q .o1 (.k (.loop [(5,.I)] (.q (.q .o4 (.c .l .l)) (.q (.k (.q (.oq 9) .aK)) .o3))))) .aM))
theorem Yc.o {a b:Sl}{c:Hp}{d:aO}(e:If (((a.len:Nat):Int) != ((b.len:Nat):Int)) (d false c) (WR [bN] (λe=>e 0 c) λf (g:Int) h=>If (g<((a.len:Nat):Int)) (Ix a.a a.len g 6 λi=>aQ i 0 h λj=>aQ i 1 h λk=>aQ i 2 h λl=>aQ i 3 h λm=>aQ i 4 h λn=>aQ i 5 h λo=>Ix b.a b.len g 6 λp=>aQ p 0 h λq=>aQ p 1 h λr=>aQ p 2 h λs=>aQ p 3 h λt=>aQ p 4 h λu=>aQ p 5 h λv=>If (!((j==q)&&((k==r)&&((l==s)&&((m==t)&&((n==u)&&((o==v)&&true))))))) (d false h) (bL (g+1) λw=>f w h)) (d true h))):Yc.c a b c d:=Wa Tryz.func39 (x:=Yc.h) (R0 e)
end Go.Proofs
namespace Go.Ar
open Go Go.Vc Go.Proofs
open Go.Vc (bV dE cT)
variable {σ σ0 v w w':Hp}{F G P Q X T:Rg}{L:dP}{H H':Hw}{held:List Pc}{s0:Sp}{t n:Nat}{g:Th}{mb am m:Nat}{x y:Me}
theorem Bj {α:Type}{l:List (Int×α)}{n:Int}(h:bV l n=none)(v:α):dE l n v=l++[(n,v)]:=by
 unfold dE;rw[zA];intro hx;obtain⟨y,a,e⟩:=zq.1 hx;unfold bV at h;rw[qX,oV]at h;exact h y a e
theorem Ht {α:Type}{l:List (Int×α)}{n:Int}(h:bV l n=none):cT l n=l:=by
 unfold cT;rw[ov];intro y hy;unfold bV at h;rw[qX,oV]at h;have:=h y hy;simpa using this
theorem ly.eM (mi:ly x){D:Nat}(hD:D<=128):ly (x.eM (D:Int)):=by
 have a:=mi.jg;have b:=mi.p;have hd:=mi.d;refine⟨mi.v,mi.l,mi.s,?_,?_,mi.c⟩
 ·unfold Me.eM;simp only;split<;>omega
 ·unfold Me.eM;simp only;split<;>omega
theorem ly.gO (mi:ly x){a size e:Int}{D:Nat}(h:bV x.asked a=none)(hc:x.calls<=899)(h0:0<=size)(h1:e=0->size<=16384)(hD:D<=128):ly (x.gO a size e D):=by
 unfold Me.calls at hc;refine ly.eM ?_ hD;by_cases he:e=0
 ·have h1:=h1 he;rw[zB he];have g:x.forget a=x:=by unfold Me.forget;rw[Ht h,h];simp
  rw[g];unfold Me.count Me.add;rw[zB he,zB rfl,Bj h];refine⟨λy b=>?_,?_,?_,mi.p,mi.d,?_⟩
  ·rcases zP.1 b with b|b
   ·exact mi.v y b
   ·rw[zS]at b;subst b;exact⟨h0,h1⟩
  ·have:=mi.l;simp only[zJ,sI];omega
  ·simp only[kQ,uh];rw[mi.s];simp
  ·unfold Me.calls;simp only;omega
 ·rw[zA he];unfold Me.count;rw[zA he];exact⟨mi.v,mi.l,mi.s,mi.p,mi.d,by unfold Me.calls;simp only;omega⟩
theorem iU.CF {n m:Nat}{H H1 H2:Hw}{t:Nat}{p:Ph}{a1 e1 a2 e2:Int}(h:iU n H t p H1 a1 e1)(h':iU m H t p H2 a2 e2):H1=H2/\a1=a2/\e1=e2:=by
 induction h generalizing m with
 | done h1 h2=>
  cases h' with
  | done=>exact⟨rfl,rfl,rfl⟩
  | next _ h3 _=>rw[h2]at h3;cases h3
 | next h1 h2 _ ih=>
  cases h' with
  | done _ h3=>rw[h2]at h3;cases h3
  | next _ h3 h4=>rw[h2]at h3;cases h3;exact ih h4
theorem Hg.CF {thread kind size align addr a1 e1 a2 e2:Int}{H1 H2:Hw}(h:Hg H thread kind size align addr H1 a1 e1)(h':Hg H thread kind size align addr H2 a2 e2):H1=H2/\a1=a2/\e1=e2:=by
 rcases h with⟨h1,_,rfl,rfl⟩|⟨t,p,n,h1,h2⟩
 ·rcases h' with⟨g1,_,rfl,rfl⟩|⟨_,_,_,g1,_⟩
  ·rw[h1]at g1;cases g1;exact⟨rfl,rfl,rfl⟩
  ·rw[h1]at g1;cases g1
 ·rcases h' with⟨g1,_⟩|⟨_,_,_,g1,g2⟩
  ·rw[h1]at g1;cases g1
  ·rw[h1]at g1;cases g1;exact h2.CF g2
def wm:Hw×Int×Int:=qp w0 0 20 0
theorem DI:wm.2=(4096,0):=by decide +kernel
theorem CB:Hg w0 0 0 20 8 0 wm.1 4096 0:=CN rfl DI aB rfl
theorem CA:wm.1.sp.st.count 2<=128:=by decide +kernel
theorem Lo:wm.1.live=[(4096,4096,24,2,0)]:=by decide +kernel
theorem Lt:wm.1.tb=tg:=by decide +kernel
theorem Eh:vS (tg.map j9) 20 8=(6,0):=by decide +kernel
theorem A8:qY tg [(4096,20)] [(4096,24,2,0)] (tg.length+1)=[(2,24,1,24,20,1)]:=by decide +kernel
theorem Wo7:uO w0 64:=by
 have h:=JR (xs:=qR 8) (p:=64) (a:=1) (t:=1) (b:=1024) (r:=2) (Gs 8 aB aB) aB;rw[xN]at h;exact h
theorem DQ:∀{l:List U6} {i:Nat} {r:U6},l[i]?=some r->∀{j:Nat} {v:Value},(oJ r)[j]?=some v->(nv l)[6*i+j]?=some v
 | [],i,b,h,_,_,_=>by simp at h
 | a::bs,0,b,h,j,v,hv=>by
  simp only[vG,Option.some.injEq]at h;subst h;have hj:=(cS.1 hv).1;show(oJ a++nv bs)[6*0+j]?=_;rw[show 6*0+j=j by omega,zg hj];exact hv
 | a::bs,i+1,b,h,j,v,hv=>by
  have d:=DQ (l:=bs) (i:=i) (r:=b) (by simpa using h) hv;show(oJ a++nv bs)[6*(i+1)+j]?=_;rw[zi (by simp[oJ];omega)];have:6*(i+1)+j-(oJ a).length=6*i+j:=by simp[oJ];omega
  rw[this];exact d
theorem Mi {s:Sl}{l:List U6}(hs:cP s 6 (nv l) σ F){i:Nat}{r:U6}(hb:l[i]?=some r){K:Addr->Prop}(hK:∀bb o,(∀(j:Nat) v,(oJ r)[j]?=some v->cell σ ⟨bb,o+j,none⟩=some v)->K ⟨bb,o,none⟩):Ix s.a s.len (i:Int) 6 K:=by
 have m:=(cS.1 hb).1;have x:s.len=l.length:=by have:=hs.1;rw[Df]at this;omega
 obtain⟨b,o,e,_⟩:=hs.cell (DQ hb (j:=0) rfl);rw[e];refine ix O O ?_;rw[add_lit];refine hK b _ λj v g=>?_;obtain⟨w,u,d,p⟩:=hs.cell (DQ hb g);rw[e]at d;cases d;rw[show o+(i:Int).toNat*6+j=o+(6*i+j) by omega];exact p
theorem T1 {a b:Sl}{l:List U6}(ha:cP a 6 (nv l) σ F)(hb:cP b 6 (nv l) σ G)(hl:l.length<=1000000){R:aO}(hR:R true σ):Yc.c a b σ R:=by
 refine Yc.o ?_;have s:=ha.1;have u:=hb.1;rw[Df]at s u;have j:a.len=l.length:=by omega
 have g:b.len=l.length:=by omega
 refine cF (by rw[j,g];simp) (ZP (a:=bN) (λ(i:Int) w=>w=σ/\∃k:Nat,i=k/\k<=l.length) (λi _=>l.length-i.toNat) ⟨rfl,0,rfl,O⟩ ?_);rintro(i:Int) w ⟨rfl,k,rfl,hk⟩;refine cH (λx=>?_) λy=>hR;have p:l[k]?=some (l[k]' O):=cL _;generalize (l[k]' O)=r at p;refine Mi ha p λz o1 e=>dJ (e 0 _ rfl) (dJ (e 1 _ rfl) (dJ (e 2 _ rfl) (dJ (e 3 _ rfl) (dJ (e 4 _ rfl) (dJ (e 5 _ rfl) ?_)))));refine Mi hb p λA o2 d=>dJ (d 0 _ rfl) (dJ (d 1 _ rfl) (dJ (d 2 _ rfl) (dJ (d 3 _ rfl) (dJ (d 4 _ rfl) (dJ (d 5 _ rfl) ?_)))));exact cF aA (bZ (m:=k+1) O O ⟨⟨rfl,k+1,rfl,O⟩,O⟩)
attribute [local irreducible] w0 wm qp tg
set_option maxRecDepth 8000 in
theorem FY (gl:Gl σ)(gd:Gd σ){R:aO}(hR:∀σ',bO σ σ'->R true σ'):Xm.c σ R:=by
 refine Xm.o ?_;refine TK gl gd λv L N e hsN hNv h0=>cF rfl ?_;have D:=Wo7;have hc0:w0.cf.aF=64:=by have:=D.pg;omega
 refine FI e h0.cut D.hi D.cf D.ph O (λb hb=>⟨by have:N<=b:=hb.1;omega,hb.2⟩) (EG gl gd) λw mb am e1 _ _ p=>?_;refine bY.intro (cF rfl (cF rfl ?_));refine FR p Ct aB 0 20 8 λa er w2 ts H' W s0' P' e2 U hP2 k2 me hw=>?_;obtain⟨rfl,rfl,rfl⟩:=hw.CF CB;generalize hy:pf.gO 4096 20 0 (wm.1.sp.st.count 2)=y at U;have J:y.sum=20/\y.cU=1/\y.asked=[(4096,20)]:=by subst hy;exact⟨rfl,rfl,rfl⟩
 obtain⟨y1,y2,y3⟩:=J;refine M4 U λX e3 so=>?_;have P:El wm.1.live=24:=by rw[Lo];rfl
 rw[y1,y2,P];have p3:=U.fr e3;refine nw (cs:=xT) λw4 hz4 e4 E=>?_;unfold xT at E;refine E.s1 aA λv1 o1 b1=>b1.s1 aA λv2 o2 b2=>b2.s1 aA λv3 o3 b3=>b3.s1 aA λv4 o4 E=>E.s1 aA λv5 o5 b5=>b5.s1 aA λv6 o6 b6=>b6.s1 aA λv7 o7 b7=>b7.s1 aA λv8 o8 b8=>b8.s1 aA λv9 o9 b9=>b9.s1 aA λv10 fW S=>?_;have eo:Ext (· = X.size) w4 v10:=((((((((o1.ext.trans o2.ext).trans o3.ext).trans o4.ext).trans o5.ext).trans o6.ext).trans o7.ext).trans o8.ext).trans o9.ext).trans fW.ext;have G:bO X v10:=Ext.fresh e4 eo λi (hi:i=X.size)=>by omega
 have r:=p3.fr G;refine IS r.h r.h.ng λdF v11 u z=>TL (Az z) 20 8 λY x=>?_;rw[Lt,Eh];have m:=(u.trans x).cA S id;refine bY.intro (cJ rfl (m.rI rfl (bY.intro (cJ rfl (m.rI rfl (bY.intro (cJ rfl (m.rI rfl (bY.intro (cJ rfl ?_))))))))));have C:=(r.fr u).fr x;refine M9 C ?_ λs B bs H Q d=>?_
 ·subst hy;exact Ct.gO rfl aB aB (λ_=>by decide) CA
 rw[Lo]at Q;have K:bs=[(4096,24,2,0)]:=by
  have h1:=Q.len;obtain⟨b,rfl⟩:=List.length_eq_one_iff.1 (show bs.length=1 from h1);have h2:=(Q.mem b).1 aA;simp only[zS,Prod.mk.injEq]at h2;rw[h2.2]
 rw[K,y3,Lt,A8]at d;refine nw (cs:=[.int .i64 2,.int .i64 24,.int .i64 1,.int .i64 24,.int .i64 20,.int .i64 1]) λg Z A V=>?_;have F:cP s 6 (nv [(2,24,1,24,20,1)]) g (λb=>Y.size<=b):=bR.fP (aI.bK d A);have M:cP ⟨some ⟨B.size,0,none⟩,1,1⟩ 6 (nv [(2,24,1,24,20,1)]) g (λb=>True):=⟨rfl,.inr ⟨B.size,0,_,trivial,rfl,V.q,λj _=>by rw[zG];rfl⟩⟩;refine T1 F M aA (bY.intro (cJ rfl (bY.intro (cJ rfl ?_))));exact hR g ((C.fr H).fr A).e
end Go.Ar
namespace Go.Ar
open Go Go.Vc Go.Proofs
open Go.Vc (bV dE cT)
variable {σ w w':Hp}{F P Q X:Rg}{L:dP}{H H':Hw}{held:List Pc}{s0:Sp}{t n:Nat}{g:Th}{σ0:Hp}{addrs:Sl}{ad:List Int}{l:Sl}{ds:List fL}
theorem jY.push (p:jY σ0 σ L H held s0 P Q addrs ad){s':Sl}{x:Int}(e:Ext Q σ w)(hr:bR s' 1 (Wv (ad++[x])) w (λb=>Q b\/σ.size<=b/\b<w.size))(hl:(ad++[x]).length<=60):jY σ0 w L H held s0 P (λb=>Q b\/σ.size<=b/\b<w.size) s' (ad++[x]):=by
 have j:=e.1;have i:=p.e.1;refine⟨Ext.fE p.e e λb a=>.inr (p.pQ b a).1,p.h.bU e (λb a d g=>(p.pQ b g).2.2 d) (λb a=>p.g0.1 b (p.pQ b a).1) (λa=>p.g0.2 (p.pQ _ a).1),p.hi,p.cf,p.pg,λb a=>⟨(p.pP b a).1,by have:=(p.pP b a).2;omega⟩,λb a=>?_,hr,hl,p.g0⟩;rcases a with a|a
 ·exact⟨(p.pQ b a).1,by have:=(p.pQ b a).2.1;omega,(p.pQ b a).2.2⟩
 ·exact⟨O,a.2,λd=>by have:=(p.pP b d).2;omega⟩
end Go.Ar
namespace Go.Ar
open Go Go.Vc Go.Proofs
open Go.Vc (bV dE cT)
variable {σ σ0 v w w':Hp}{F G P Q X T:Rg}{L:dP}{H H':Hw}{held:List Pc}{s0:Sp}{t n:Nat}{g:Th}{mb am m:Nat}{x y:Me}
structure IF (H H':Hw):Prop where
 hi:∃held s0,HI H' held s0
 kp:Qf H' H
 live:H'.live=H.live
 ph:(∀g∈H.bS,g.ph=none)->∀g∈H'.bS,g.ph=none
set_option maxRecDepth 8000 in
theorem Bs (h:HH σ F L H)(gc:Gc σ)(hi:HI H held s0)(hc:mI H)(h208:H.cf.aF<=208){addrs:Sl}{ad:List Int}(hs:cP addrs 1 (Wv ad) σ X)(d:fL)(di:lD d)
 (hkd:d.kd=2\/d.kd=3\/d.kd=8\/d.kd=9\/d.kd=10) {R:Int->Int->Int->Hp->Prop}
 (hR:∀a e n σ' ts' H',Ext F σ σ'->HH σ' (Grow F σ) {L with ts:=ts'} H'->IF H H'->R a e n σ') :
 Zf.c (aW L.p) addrs d.kd d.th d.a d.b d.of d.pl d.va d.s σ R:=by
 refine Zf.o ?_;refine nw (cs:=qB d) λv hz e i=>i.rI rfl (i.rI rfl (i.rI rfl (i.rI rfl (i.rI rfl (i.rI rfl (i.rI rfl (i.rT rfl ?_)))))));refine Ib (aH.bK (aH.cut hs) e) d λv1 Q=>?_;have K:=((HK.start h).box e hz).fr Q;have r:=Q.cA i id;have D:=Lr (ad:=ad) di;generalize hx:uk ad d=x at D;have m:∀{H'},iM H H'->IF H H':=λo=>⟨o.hi,o.kp,o.live,λh g hg=>h g (by rw[←o.bS];exact hg)⟩;refine r.rI rfl (cN (λj=>absurd (ot (by simpa using j):d.kd=0) O) λhk0=>?_);refine cN (λj=>absurd (show d.kd=1 by simpa using j) O) λhk1=>?_;refine cN (λj=>?_) λG=>?_
 ·obtain⟨H',er,hw,o,le⟩:=SY hi d.th;refine r.rI rfl (TU Ba K.h hc.2.2 hw λz ts w u=>?_);have K2:=K.to w u λb _ i=>i;exact hR _ _ _ z ts H' K2.e (K2.fin h) ⟨o.hi,o.kp,le,o.rest⟩
 refine cN (λj=>?_) λU=>?_
 ·refine r.rI rfl (My K.h (gc.bK (e.trans Q)) x d.va D.2 λz w u=>?_);have K2:=K.to w u λb _ i=>i;exact hR _ _ _ z L.ts _ K2.e (K2.fin h) ⟨⟨_,_,hi.write x d.va⟩,⟨rfl,rfl,rfl,rfl⟩,rfl,id⟩
 have k2:d.kd≠2:=by simpa using G
 have k3:d.kd≠3:=by simpa using U
 refine cN (λj=>absurd (show d.kd=4 by simpa using j) O) λhk4=>?_;refine cN (λj=>absurd (show d.kd=5 by simpa using j) O) λhk5=>?_;refine cN (λj=>absurd (show d.kd=6 by simpa using j) O) λhk6=>?_;refine cN (λj=>absurd (show d.kd=7 by simpa using j) O) λaa=>?_;refine cN (λj=>?_) λM=>?_
 ·have y:=TO hi d.a;refine r.rI rfl (WeH K.h d.a di.a.2 (λn A P E=>?_) (λn P=>?_) (λV=>?_) λZ z w u=>?_)
  ·obtain⟨B,J,N⟩:=(y n).1.hi;exact N.lA (by rw[(y n).1.kp.2.1];exact h208) E
  ·have:=(y n).2;have:=h.s.a2;omega
  ·exact hR _ _ _ v1 L.ts _ K.e (K.fin h) ⟨⟨_,_,hi⟩,Qf.refl _,rfl,id⟩
  ·have K2:=K.to w u λb _ i=>i;exact hR _ _ _ z L.ts _ K2.e (K2.fin h) (m (y _).1)
 refine cN (λj=>?_) λS=>?_
 ·have Y:=Ti hi;refine To K.h (λn P=>?_) λz w u=>?_
  ·have:=(Y n).2;have:=h.s.a2;omega
  ·have K2:=K.to w u λb _ i=>i;exact hR _ _ _ z L.ts _ K2.e (K2.fin h) (m (Y _).1)
 refine cN (λj=>?_) λC=>?_
 ·have W:=P4 hi;refine Pw K.h (λn A P E=>?_) λz w u=>?_
  ·obtain⟨B,J,N⟩:=(W n).hi;exact(N.wi.ga n A E).Bi
  ·have K2:=K.to w u λb _ i=>i;exact hR _ _ _ z L.ts _ K2.e (K2.fin h) (m (W _))
 have k8:d.kd≠8:=by simpa using M
 have k9:d.kd≠9:=by simpa using S
 have k10:d.kd≠10:=by simpa using C
 omega
abbrev Kn:=Int×Int×Int
def mU (tb:List bX)(size align:Int):Int:=match gR tb size align with
 | some k=>(k:Int)
 | none=>-1
def yw (tb:List bX)(k:Kn):Int×Int×Int:=(k.1,(ug tb k.2.1 k.2.2).1,mU tb k.2.1 k.2.2)
structure KI (H:Hw) (x:Me) (kn:List Kn):Prop where
 asked:x.asked=kn.map λk=>(k.1,k.2.1)
 live:H.live.map (λe=>(e.1,e.2.2.1,e.2.2.2.1))=kn.map (yw H.tb)
 arg:∀k∈kn,1<=k.2.1/\k.2.1<=16384/\KZ k.2.1 k.2.2=true
 iX:x.cU=x.fV+kn.length
theorem KI.addr {kn:List Kn}(k:KI H x kn):H.live.map (·.1)=kn.map (·.1):=by
 have:=congrArg (List.map λe:Int×Int×Int=>e.1) k.live;rw[kP,kP]at this;exact this
theorem FM {α β:Type}{l:List (Int×α)}{l':List (Int×β)}(h:l.map (·.1)=l'.map (·.1))(n:Int):bV l n=none↔bV l' n=none:=by
 have key:∀{γ:Type} (l:List (Int×γ)),bV l n=none↔n∉l.map (·.1):=λl=>by
  unfold bV;rw[qX,oV];simp only[zD,not_exists,not_and,zZ]
 rw[key,key,h]
theorem KI.same {kn:List Kn}(k:KI H x kn)(hl:H'.live=H.live)(ht:H'.tb=H.tb):KI H' x kn:=⟨k.asked,by rw[hl,ht];exact k.live,k.arg,k.iX⟩
end Go.Ar
namespace Go.Ar
open Go Go.Vc Go.Proofs
open Go.Vc (bV dE cT)
variable {σ σ0 v w w':Hp}{F G P Q X T:Rg}{L:dP}{H H':Hw}{held:List Pc}{s0:Sp}{t n:Nat}{g:Th}{mb am m xb:Nat}{x y:Me}
def nm (hp mb:Nat)(addrs kns:Sl)(most:Int):List Value:=[.pointer (some ⟨hp,0,none⟩),.pointer (some ⟨mb,0,none⟩),.slice addrs.a addrs.len addrs.cap,.slice kns.a kns.len kns.cap,.int .i64 most]
structure OF (σ0 σ:Hp) (xb:Nat) (L:dP) (H:Hw) (held:List Pc) (s0:Sp) (P:Rg) (mb am:Nat) (x:Me) (Qa Qk:Rg) (addrs:Sl) (ad:List Int) (kns:Sl) (kn:List Kn) (most:Int):Prop where
 p:MP σ0 σ L H held s0 P mb am x
 b:bW σ xb (nm L.p mb addrs kns most)
 ra:bR addrs 1 (Wv ad) σ Qa
 rk:bR kns 3 (kD kn) σ Qk
 uM:σ0.size<=xb/\¬P xb/\xb≠mb/\xb≠am/\¬Qa xb/\¬Qk xb
 qa:∀b,Qa b->σ0.size<=b/\b<σ.size/\¬P b/\b≠mb/\b≠am
 qk:∀b,Qk b->σ0.size<=b/\b<σ.size/\¬P b/\b≠mb/\b≠am
 qq:∀b,Qa b->¬Qk b
structure OP (σ0 σ:Hp) (xb:Nat) (L:dP) (H:Hw) (held:List Pc) (s0:Sp) (P:Rg) (mb am:Nat) (x:Me) (Qa Qk:Rg) (addrs:Sl) (ad:List Int) (kns:Sl) (kn:List Kn) (most:Int):Prop where
 f:OF σ0 σ xb L H held s0 P mb am x Qa Qk addrs ad kns kn most
 mi:ly x
 k:KI H x kn
 al:ad.length<=x.cU
 pk:x.sum<=x.dO/\x.dO=most
variable {Qa Qk:Rg}{addrs kns:Sl}{ad:List Int}{kn:List Kn}{most:Int}
theorem OF.fr (o:OF σ0 σ xb L H held s0 P mb am x Qa Qk addrs ad kns kn most)(e:bO σ w):OF σ0 w xb L H held s0 P mb am x Qa Qk addrs ad kns kn most:=
 ⟨o.p.fr e,e.cA o.b id,aI.bK o.ra e,aI.bK o.rk e,o.uM,λb a=>by have h:=o.qa b a;have:=e.1;exact⟨h.1,O,h.2.2⟩,λb a=>by have h:=o.qk b a;have:=e.1;exact⟨h.1,O,h.2.2⟩,o.qq⟩
theorem OF.fQ (o:OF σ0 σ xb L H held s0 P mb am x Qa Qk addrs ad kns kn most){L':dP}{held':List Pc}{s0':Sp}{P':Rg}(e:Ext (Md P mb am) σ w)(p':MP σ0 w L' H' held' s0' P' mb am y)(hL:L'.p=L.p)(hP:∀b,P' b->P b\/σ.size<=b) :
 OF σ0 w xb L' H' held' s0' P' mb am y Qa Qk addrs ad kns kn most:=by
 have E:=e.1;have i:=o.b.lt;obtain⟨u,m,s,r,B,z⟩:=o.uM;have j:∀b,b<σ.size->¬P b->¬P' b:=λb D A C=>by
  rcases hP b C with h4|h4
  ·exact A h4
  ·omega
 refine⟨p',?_,aI.bU o.ra e λb _ d a=>?_,aI.bU o.rk e λb _ d a=>?_,⟨u,j _ i m,s,r,B,z⟩,λb g=>?_,λb g=>?_,o.qq⟩
 ·rw[hL];exact e.cA o.b λa=>by
   rcases a with a|a|a
   ·exact m a
   ·exact s a
   ·exact r a
 ·have h:=o.qa b d;rcases a with a|a|a
  ·exact h.2.2.1 a
  ·exact h.2.2.2.1 a
  ·exact h.2.2.2.2 a
 ·have h:=o.qk b d;rcases a with a|a|a
  ·exact h.2.2.1 a
  ·exact h.2.2.2.1 a
  ·exact h.2.2.2.2 a
 ·have h:=o.qa b g;exact⟨h.1,O,j b h.2.1 h.2.2.1,h.2.2.2⟩
 ·have h:=o.qk b g;exact⟨h.1,O,j b h.2.1 h.2.2.1,h.2.2.2⟩
theorem OF.cB (o:OF σ0 σ xb L H held s0 P mb am x Qa Qk addrs ad kns kn most){s':Sl}{ad':List Int}(e:Ext Qa σ w)(hr:bR s' 1 (Wv ad') w λb=>Qa b\/σ.size<=b/\b<w.size){K:aP}
 (hK:∀u,Ext (· = xb) w u->OF σ0 u xb L H held s0 P mb am x (λb=>Qa b\/σ.size<=b/\b<w.size) Qk s' ad' kns kn most->K u):dG (Addr.add ⟨xb,0,none⟩ 2) (.slice s'.a s'.len s'.cap) w K:=by
 have U:=e.1;have M:=o.b.lt;obtain⟨A,C,D,z,s,B⟩:=o.uM;have y:=o.p.out e λb _ d=>by have h:=o.qa b d;exact⟨h.2.2.1,h.2.2.2.1,h.2.2.2.2,h.1⟩
 have r:=aI.bU o.rk e λb _ i F=>o.qq b F i;refine(e.cA o.b s).s1 (by simp[nm]) λu E b=>?_;have j:=E.ext;have N:=E.1;have Q:=y.b.lt;have G:=y.m.lt;refine hK u j ⟨y.out j λb _ (d:b=xb)=>by subst d;exact⟨C,D,z,A⟩,b,aI.bU hr j λb _ g (d:b=xb)=>?_,aI.bU r j λb _ g (d:b=xb)=>B (d▸g),⟨A,C,D,z,?_,B⟩,λb d=>?_,λb d=>by have h:=o.qk b d;exact⟨h.1,O,h.2.2⟩,λb d i=>?_⟩
 ·subst d;rcases g with g|g
  ·exact s g
  ·omega
 ·rintro(g|g)
  ·exact s g
  ·omega
 ·rcases d with d|d
  ·have h:=o.qa b d;exact⟨h.1,O,h.2.2⟩
  ·have:=o.p.e.1;have S:=o.p.b.lt;have R:=o.p.m.lt;exact⟨O,O,λJ=>by have:=(o.p.pP b J).2;omega,O,O⟩
 ·rcases d with d|d
  ·exact o.qq b d i
  ·have:=(o.qk b i).2.1;omega
theorem OF.wJ (o:OF σ0 σ xb L H held s0 P mb am x Qa Qk addrs ad kns kn most){s':Sl}{kn':List Kn}(e:Ext Qk σ w)(hr:bR s' 3 (kD kn') w λb=>Qk b\/σ.size<=b/\b<w.size){K:aP}
 (hK:∀u,Ext (· = xb) w u->OF σ0 u xb L H held s0 P mb am x Qa (λb=>Qk b\/σ.size<=b/\b<w.size) addrs ad s' kn' most->K u):dG (Addr.add ⟨xb,0,none⟩ 3) (.slice s'.a s'.len s'.cap) w K:=by
 have Q:=e.1;have G:=o.b.lt;obtain⟨B,D,z,y,C,r⟩:=o.uM;have J:=o.p.out e λb _ d=>by have h:=o.qk b d;exact⟨h.2.2.1,h.2.2.2.1,h.2.2.2.2,h.1⟩
 have s:=aI.bU o.ra e λb _ E i=>o.qq b E i;refine(e.cA o.b r).s1 (by simp[nm]) λu A b=>?_;have j:=A.ext;have M:=A.1;refine hK u j ⟨J.out j λb _ (d:b=xb)=>by subst d;exact⟨D,z,y,B⟩,b,aI.bU s j λb _ g (d:b=xb)=>C (d▸g),aI.bU hr j λb _ g (d:b=xb)=>?_,⟨B,D,z,y,C,?_⟩,λb d=>by have h:=o.qa b d;exact⟨h.1,O,h.2.2⟩,λb d=>?_,λb d i=>?_⟩
 ·subst d;rcases g with g|g
  ·exact r g
  ·omega
 ·rintro(g|g)
  ·exact r g
  ·omega
 ·rcases d with d|d
  ·have h:=o.qk b d;exact⟨h.1,O,h.2.2⟩
  ·have:=o.p.e.1;have N:=o.p.b.lt;have R:=o.p.m.lt;exact⟨O,O,λF=>by have:=(o.p.pP b F).2;omega,O,O⟩
 ·rcases i with i|i
  ·exact o.qq b d i
  ·have:=(o.qa b d).2.1;omega
theorem OF.BE (o:OF σ0 σ xb L H held s0 P mb am x Qa Qk addrs ad kns kn most)(most':Int){K:aP}(hK:∀u,Ext (· = xb) σ u->OF σ0 u xb L H held s0 P mb am x Qa Qk addrs ad kns kn most'->K u):dG (Addr.add ⟨xb,0,none⟩ 4) (.int .i64 most') σ K:=by
 obtain⟨i,r,w,s,m,j⟩:=o.uM;refine o.b.s1 (by simp[nm]) λu g b=>?_;have d:=g.ext;have y:=g.1;exact hK u d ⟨o.p.out d λb _ (a:b=xb)=>by subst a;exact⟨r,w,s,i⟩,b,aI.bU o.ra d λb _ e (a:b=xb)=>m (a▸e),aI.bU o.rk d λb _ e (a:b=xb)=>j (a▸e),o.uM,λb a=>by have h:=o.qa b a;exact⟨h.1,O,h.2.2⟩,λb a=>by have h:=o.qk b a;exact⟨h.1,O,h.2.2⟩,o.qq⟩
def rQ (kn:List Kn):Int:=(kn.map λk=>k.2.1).sum
theorem BL {s:Sl}{l:List T3}(hs:cP s 3 (kD l) σ F){i:Nat}{r:T3}(hb:l[i]?=some r){K:Addr->Prop}(hK:∀bb o,(∀(j:Nat) v,(v3 r)[j]?=some v->cell σ ⟨bb,o+j,none⟩=some v)->K ⟨bb,o,none⟩):Ix s.a s.len (i:Int) 3 K:=by
 have p:=(cS.1 hb).1;have y:s.len=l.length:=by have:=hs.1;rw[UB]at this;omega
 obtain⟨b,o,g,_⟩:=hs.cell (j:=i*3+0) (v:=.int .i64 r.1) ((Ga hb O).trans rfl);rw[g];refine ix O O ?_;rw[add_lit];refine hK b _ λj v e=>?_;have m:j<3:=(cS.1 e).1;obtain⟨x,w,d,u⟩:=hs.cell ((Ga hb m).trans e);rw[g]at d;cases d;rw[show o+(i:Int).toNat*3+j=o+(i*3+j) by omega];exact u
theorem Wl2 {hp:Nat}(hb:bW σ xb (nm hp mb addrs kns most))(hs:cP kns 3 (kD kn) σ F)(hl:kn.length<=1000)(ha:∀k∈kn,0<=k.2.1/\k.2.1<=16384){R:aN}(hR:R (rQ kn) σ):WM.c (aW xb) σ R:=by
 refine WM.o ?_;have p:kns.len=kn.length:=by have:=hs.1;rw[UB]at this;omega
 refine Kh (a:=bN) (bb:=bN) (λ(sum i:Int) w=>w=σ/\∃k:Nat,i=k/\k<=kn.length/\sum=rQ (kn.take k)) (λ_ i _=>kn.length-i.toNat) ⟨rfl,0,rfl,O,by simp[rQ]⟩ ?_;rintro(sum:Int) (i:Int) w ⟨rfl,k,rfl,hk,rfl⟩;refine aG (hb.rS rfl (cH (λe=>?_) λg=>?_))
 ·have x:k<kn.length:=by simp only at e;omega
  have d:kn[k]?=some kn[k]:=cL _;generalize kn[k]=r at d;have z:=ha r (zE d);have y:=U8 (l:=kn.take k) (f:=λk:Kn=>k.2.1) (c:=16384) λb h=>ha b (m7 h);have B:(kn.take k).length=k:=by rw[zO];omega
  have u:rQ (kn.take (k+1))=rQ (kn.take k)+r.2.1:=by unfold rQ;rw[zf,d];simp
  have A:rQ (kn.take k)=((kn.take k).map λk:Kn=>k.2.1).sum:=rfl;refine aG (hb.rS rfl (BL hs d λbb o s=>dJ (s 1 _ rfl) (ar O O (bZ (m:=k+1) O O ⟨⟨rfl,k+1,rfl,O,u.symm⟩,O⟩))))
 ·have j:k=kn.length:=by simp only at g;omega
  subst j;rw[zm];exact hR
end Go.Ar
namespace Go.Ar
open Go Go.Vc Go.Proofs
open Go.Vc (bV dE cT)
variable {H H':Hw}{x y:Me}{kn:List Kn}{a size align e:Int}{D:Nat}
theorem US {α β:Type}(l:List (Int×α))(f:Int×α->Int×β)(hf:∀z∈l,(f z).1=z.1)(n:Int):(cT l n).map f=cT (l.map f) n:=by
 unfold cT
 induction l with
 | nil=>rfl
 | cons z l ih=>
  have d:=hf z lB;have b:=ih λz a=>hf z (lz _ a);simp only[zK,ri,d];by_cases a:z.1=n
  ·simp[a,b]
  ·simp[a,b]
theorem KI.fresh (k:KI H x kn)(h:bV H.live a=none):bV x.asked a=none:=by
 rw[k.asked];refine(FM ?_ a).1 h;rw[k.addr,kP];rfl
theorem KI.gO (k:KI H x kn)(ht:H'.tb=H.tb)(me:uu H size align H' a e):(e=0->KI H' (x.gO a size e D) (kn++[(a,size,align)]))/\(e≠0->KI H' (x.gO a size e D) kn):=by
 refine⟨λb=>?_,λb=>?_⟩
 ·rcases me with⟨h1,_⟩|⟨_,hm,hok,cl,m,hcl⟩
  ·exact absurd b h1
  ·have d:=k.fresh hm;have p:x.forget a=x:=by unfold Me.forget;rw[Ht d,d];simp
   have g:(x.gO a size e D).asked=x.asked++[(a,size)]/\(x.gO a size e D).cU=x.cU+1/\(x.gO a size e D).fV=x.fV:=by
    unfold Me.gO;rw[zB b,p];unfold Me.count Me.add Me.eM;rw[zB b,zB rfl];exact⟨Bj d _,rfl,rfl⟩
   refine⟨?_,?_,λq i=>?_,?_⟩
   ·rw[g.1,k.asked];simp
   ·rw[m,Bj hm,kQ,kQ,k.live,ht]
    congr 1
    simp only[zK,qz,yw]
    congr 3
    unfold mU;rcases hcl with⟨j,rfl,hj⟩|⟨rfl,hj⟩<;>rw[hj]
   ·rcases zP.1 i with i|i
    ·exact k.arg q i
    ·rw[zS]at i;subst i;exact⟨hok.1,hok.2.1,hok.2.2⟩
   ·rw[g.2.1,g.2.2,k.iX,zJ,sI];omega
 ·have m:H'.live=H.live:=by
   rcases me with⟨_,_,h⟩|⟨h,_⟩
   ·exact h
   ·exact absurd h b
  have g:(x.gO a size e D).asked=x.asked/\(x.gO a size e D).cU=x.cU/\(x.gO a size e D).fV=x.fV:=by
   unfold Me.gO;rw[zA b];unfold Me.count Me.eM;rw[zA b];exact⟨rfl,rfl,rfl⟩
  exact⟨g.1.trans k.asked,by rw[m,ht];exact k.live,k.arg,by rw[g.2.1,g.2.2];exact k.iX⟩
theorem Lh {l:List (Int×Int)}{n v:Int}(hn:(l.map (·.1)).Nodup)(h:bV l n=some v):(l.map (·.2)).sum=v+((cT l n).map (·.2)).sum/\l.length=(cT l n).length+1:=by
 have b:=KK h;refine⟨Ep hn b,?_⟩;clear h;unfold cT
 induction l with
 | nil=>simp at b
 | cons z l ih=>
  simp only[zK,zo]at hn;rcases zT.1 b with h1|h1
  ·subst h1;have:l.filter (λy=>!(y.1==n))=l:=by
    rw[ov];intro y hy;have:y.1≠n:=λe=>hn.1 (zD.2 ⟨y,hy,e⟩);simpa using this
   rw[tx aA,this];rfl
  ·have a:z.1≠n:=λe=>hn.1 (zD.2 ⟨_,h1,e.symm⟩);rw[uz (by simpa using a),zQ,zQ,ih hn.2 h1]
theorem O8 (k:KI H x kn)(ht:H'.tb=H.tb)(he:e=0)(hl:H'.live=cT H.live a){b:Bk}(hm:bV H.live a=some b)(hn:(H.live.map (·.1)).Nodup):KI H' (x.jj a e D) (kn.filter λq=>!(q.1==a))/\(∃v,bV x.asked a=some v)/\kn.length=(kn.filter λq=>!(q.1==a)).length+1:=by
 have m:(x.jj a e D).asked=cT x.asked a/\(x.jj a e D).cU=x.cU/\(x.jj a e D).fV=x.fV+1:=by
  unfold Me.jj;rw[zB he];unfold Me.count Me.forget Me.eM;rw[zB he,zA aB];exact⟨rfl,rfl,rfl⟩
 have j:x.asked.map (·.1)=H.live.map (·.1):=by rw[k.asked,k.addr,kP];rfl
 obtain⟨v,p⟩:∃v,bV x.asked a=some v:=by
  cases h:bV x.asked a with
  | none=>rw[(FM j a).1 h]at hm;cases hm
  | some v=>exact⟨v,rfl⟩
 have d:=(Lh (by rw[j];exact hn) p).2;have g:cT x.asked a=(kn.filter λq=>!(q.1==a)).map λq=>(q.1,q.2.1):=by
  rw[k.asked];exact(US kn (λq=>(q.1,q.2.1)) (λ_ _=>rfl) a).symm
 have i:kn.length=(kn.filter λq=>!(q.1==a)).length+1:=by
  rw[g,za]at d;rw[←d,k.asked,za]
 refine⟨⟨m.1.trans g,?_,λq r=>k.arg q (zH.1 r).1,?_⟩,⟨v,p⟩,i⟩
 ·rw[hl,ht,US H.live (λe=>(e.1,e.2.2.1,e.2.2.2.1)) (λ_ _=>rfl) a,k.live];exact(US kn (yw H.tb) (λ_ _=>rfl) a).symm
 ·rw[m.2.1,m.2.2,k.iX,i];omega
theorem KI.rY (k:KI H x kn)(ht:H'.tb=H.tb)(he:e≠0)(hl:H'.live=H.live):KI H' (x.jj a e D) kn:=by
 have b:(x.jj a e D).asked=x.asked/\(x.jj a e D).cU=x.cU/\(x.jj a e D).fV=x.fV:=by
  unfold Me.jj;rw[zA he];unfold Me.count Me.eM;rw[zA he];exact⟨rfl,rfl,rfl⟩
 exact⟨b.1.trans k.asked,by rw[hl,ht];exact k.live,k.arg,by rw[b.2.1,b.2.2];exact k.iX⟩
theorem ly.jj (mi:ly x)(hn:(x.asked.map (·.1)).Nodup)(hv:e=0->∃v,bV x.asked a=some v)(hc:x.calls<=899)(hD:D<=128):ly (x.jj a e D):=by
 unfold Me.calls at hc;refine ly.eM ?_ hD;by_cases he:e=0
 ·rw[zB he];obtain⟨v,hv⟩:=hv he;have g:=Lh hn hv;unfold Me.count Me.forget;rw[zB he,zA aB];refine⟨λy b=>mi.v y (zH.1 b).1,?_,?_,mi.p,mi.d,?_⟩
  ·have:=mi.l;simp only;omega
  ·have:=mi.s;simp only[hv,px];omega
  ·unfold Me.calls;simp only;omega
 ·rw[zA he];unfold Me.count;rw[zA he];exact⟨mi.v,mi.l,mi.s,mi.p,mi.d,by unfold Me.calls;simp only;omega⟩
end Go.Ar
namespace Go.Ar
open Go Go.Vc Go.Proofs
open Go.Vc (bV dE cT)
variable {σ σ0 v w w':Hp}{F G P Q X T:Rg}{L:dP}{H H':Hw}{held:List Pc}{s0:Sp}{t n:Nat}{g:Th}{mb am m xb:Nat}{x y:Me}{Qa Qk:Rg}{addrs kns:Sl}{ad:List Int}{kn:List Kn}{most:Int}
theorem D9 {S:aP}{b i:Nat}{cs:List Value}{c:CK}{y:c.T}(hS:∀m,S m->bW m b cs)(hc:cs[i]?=some (c.v y)){K:c.T->Prop}(hK:K y):gT S c (Addr.add ⟨b,0,none⟩ i) K:=
 ⟨y,λm a=>by rw[add_lit,(hS m a).cell,zG];exact hc,hK⟩
theorem Rk {S:aP}(hr:bR kns 3 (kD kn) σ Q)(hl:kn.length<=1000)(k:Kn)(hS0:∀u,bO σ u->S u){e t:Nat}{K:Sl->Hp->Prop}
 (hK:∀s' w,Ext Q σ w->bR s' 3 (kD (kn++[k])) w (λb=>Q b\/σ.size<=b/\b<w.size)->S w/\K s' w) :
 Nw (.cells #[.int .i64 k.1,.int .i64 k.2.1,.int .i64 k.2.2] t (0,0)) σ λn v=>And (S v)<|App kns 3 24 e [.int .i64 0,.int .i64 0,.int .i64 0] ⟨some n,1,1⟩ v λs' w=>And (S w)<|K s' w:=by
 have r:kns.len=kn.length:=by have:=hr.1;rw[UB]at this;omega
 refine nw (cs:=v3 k) λv x i a=>⟨hS0 v i,?_⟩;have g:=aI.bK hr i;refine g.app (ys:=v3 k) rfl (by simp[v3]) ?_ (by simp[v3,dM]) ?_ ?_ n4 λs' h' s p d=>?_
 ·intro j u hu;rw[add_lit,zG,a.cell];exact hu
 ·simp only;omega
 ·simp only;omega
 ·have m:Ext Q σ h':=i.to.trans p;refine hK s' h' m ?_;rw[Bv];refine aI.mono (aI.cut d) λb y z=>?_;rcases z.1 with h1|h1
  ·exact .inl h1
  ·exact .inr ⟨O,y⟩
structure qV (d:fL) (x y:Me) (H':Hw):Prop where
 calls:y.calls=x.calls+(if d.kd=120\/d.kd=121 then 1 else 0)
 dO:x.dO<=y.dO
 dL:x.dL<=y.dL
 dd:d.kd=120\/d.kd=121->(H'.sp.st.count 2:Int)*256<=y.dL
theorem yg (x:Me)(D:Int):x.dO<=(x.eM D).dO/\x.sum<=(x.eM D).dO/\x.dL<=(x.eM D).dL/\D*256<=(x.eM D).dL/\(x.eM D).dO=(if x.sum>x.dO then x.sum else x.dO)/\(x.eM D).calls=x.calls/\(x.eM D).sum=x.sum:=by
 unfold Me.eM Me.calls;refine⟨?_,?_,?_,?_,rfl,rfl,rfl⟩<;>simp only<;>split<;>omega
theorem zv (x:Me)(e:Int)(gO:Bool):(x.count e gO).calls=x.calls+1/\(x.count e gO).dO=x.dO/\(x.count e gO).dL=x.dL/\(x.count e gO).sum=x.sum:=by
 unfold Me.count Me.calls;split
 ·split
  ·exact⟨by simp only;omega,rfl,rfl,rfl⟩
  ·exact⟨by simp only;omega,rfl,rfl,rfl⟩
 ·exact⟨by simp only;omega,rfl,rfl,rfl⟩
theorem Wlc {d:fL}(hd:d.kd=120)(x:Me)(a size e:Int):qV d x (x.gO a size e (H'.sp.st.count 2)) H':=by
 have b:=yg ((if e=0 then(x.forget a).add a size else x).count e true) (H'.sp.st.count 2:Nat)
 have g:=zv (if e=0 then(x.forget a).add a size else x) e true
 have i:(if e=0 then(x.forget a).add a size else x).calls=x.calls/\(if e=0 then(x.forget a).add a size else x).dO=x.dO/\(if e=0 then(x.forget a).add a size else x).dL=x.dL:=by
  split<;>exact⟨rfl,rfl,rfl⟩
 refine⟨?_,?_,?_,λ_=>b.2.2.2.1⟩
 ·rw[zB (.inl hd)];show(Me.eM _ _).calls=_;omega
 ·show x.dO<=(Me.eM _ _).dO;omega
 ·show x.dL<=(Me.eM _ _).dL;omega
theorem Wmf {d:fL}(hd:d.kd=121)(x:Me)(a e:Int):qV d x (x.jj a e (H'.sp.st.count 2)) H':=by
 have b:=yg ((if e=0 then x.forget a else x).count e false) (H'.sp.st.count 2:Nat)
 have g:=zv (if e=0 then x.forget a else x) e false
 have i:(if e=0 then x.forget a else x).calls=x.calls/\(if e=0 then x.forget a else x).dO=x.dO/\(if e=0 then x.forget a else x).dL=x.dL:=by
  split<;>exact⟨rfl,rfl,rfl⟩
 refine⟨?_,?_,?_,λ_=>b.2.2.2.1⟩
 ·rw[zB (.inr hd)];show(Me.eM _ _).calls=_;omega
 ·show x.dO<=(Me.eM _ _).dO;omega
 ·show x.dL<=(Me.eM _ _).dL;omega
theorem OP.fr (o:OP σ0 σ xb L H held s0 P mb am x Qa Qk addrs ad kns kn most)(e:bO σ w):OP σ0 w xb L H held s0 P mb am x Qa Qk addrs ad kns kn most:=⟨o.f.fr e,o.mi,o.k,o.al,o.pk⟩
theorem MP.xK (p:MP σ0 σ L H held s0 P mb am x):H.sp.st.count 2<=128:=by
 have d:=vQ (a:=2) (l:=H.sp.st);have b:=p.hi.sl;have e:=p.pg;omega
def rW (P:Rg)(mb am xb:Nat)(Qa Qk:Rg):Rg:=λb=>Md P mb am b\/b=xb\/Qa b\/Qk b
theorem wE {P P' Qa Qa' Qk Qk':Rg}{n:Nat}(hP:∀b,P' b->P b\/n<=b)(hA:∀b,Qa' b->Qa b\/n<=b)(hK:∀b,Qk' b->Qk b\/n<=b):∀b,rW P' mb am xb Qa' Qk' b->rW P mb am xb Qa Qk b\/n<=b:=by
 rintro b ((h|h|h)|h|h|h)
 ·exact(hP b h).imp (λh=>.inl (.inl h)) id
 ·exact .inl (.inl (.inr (.inl h)))
 ·exact .inl (.inl (.inr (.inr h)))
 ·exact .inl (.inr (.inl h))
 ·exact(hA b h).imp (λh=>.inr (.inr (.inl h))) id
 ·exact(hK b h).imp (λh=>.inr (.inr (.inr h))) id
set_option maxRecDepth 16000 in
theorem Tc (o:OP σ0 σ xb L H held s0 P mb am x Qa Qk addrs ad kns kn most)(gc:Gc σ0)(hc:x.calls<=899)(d:fL)(di:lD d){R:aN}
 (hR:∀e w L' H' held' s0' P' y Qa' Qk' addrs' ad' kns' kn' most',OP σ0 w xb L' H' held' s0' P' mb am y Qa' Qk' addrs' ad' kns' kn' most'->L'.p=L.p->Qf H' H->qV d x y H'->Ext (rW P mb am xb Qa Qk) σ w/\(∀b,rW P' mb am xb Qa' Qk' b->rW P mb am xb Qa Qk b\/σ.size<=b)->R e w) :
 Xo.c (aW xb) d.kd d.th d.a d.b d.of d.pl d.va d.s σ R:=by
 refine Xo.o ?_;have tM:∀{u u':Hp},Ext (Md P mb am) u u'->Ext (rW P mb am xb Qa Qk) u u':=λe=>e.sub λb z=>.inl z;have tX:∀{u u':Hp},Ext (· = xb) u u'->Ext (rW P mb am xb Qa Qk) u u':=λe=>e.sub λb z=>.inr (.inl z);have tA:∀{u u':Hp},Ext Qa u u'->Ext (rW P mb am xb Qa Qk) u u':=λe=>e.sub λb z=>.inr (.inr (.inl z));have tK:∀{u u':Hp},Ext Qk u u'->Ext (rW P mb am xb Qa Qk) u u':=λe=>e.sub λb z=>.inr (.inr (.inr z));have hxb:=o.f.b.lt;have hmb:=o.f.p.b.lt;have ham:=o.f.p.m.lt;have h00:=o.f.p.e.1;refine nw (cs:=qB d) λv hz e z=>aG ((o.f.fr e).b.rS rfl (z.rI rfl (z.rI rfl (z.rI rfl (z.rI rfl (z.rI rfl (z.rI rfl (z.rI rfl (z.rT rfl ?_)))))))));have o1:=o.f.fr e;refine Ib (bR.fP o1.ra) d λv1 M=>?_;have o2:=o1.fr M;have W:σ.size<=v1.size:=(e.trans M).1;have A:=M.cA z id;have hat:=Lr (ad:=ad) di;generalize hx:uk ad d=ax at hat;have hkl:kn.length<=900:=by have U:=o.k.iX;have V:=o.mi.c;unfold Me.calls at V;omega
 have hal:ad.length<=900:=by have U:=o.al;have V:=o.mi.c;unfold Me.calls at V;omega
 have hnM:¬Md P mb am σ.size:=λE=>by
  rcases E with E|E|E
  ·have:=(o.f.p.pP _ E).2;omega
  ·omega
  ·omega
 refine A.rI rfl (cN (λhk=>?_) λhk0=>?_)
 ·have N:d.kd=120:=by simpa using hk
  refine⟨λm=>bO v1 m,Ext.refl _ _,aG (bW.rH (c:=.p) (y:=some ⟨mb,0,none⟩) o2.b rfl (bW.rH (c:=bN) (y:=d.th) A rfl (bW.rH (c:=bN) (y:=d.a) A rfl (bW.rH (c:=bN) (y:=d.b) A rfl ?_))))⟩;refine FR o2.p o.mi hc d.th d.a d.b λa j w ts H' held' s0' P' K p3 G kp me hw=>?_;have o3:=o2.fQ K p3 rfl G;have hb3:=K.cA A hnM;have X:=Wlc (H':=H') N x a d.a j;obtain⟨km1,km2⟩:=o.k.gO (D:=H'.sp.st.count 2) kp.1 me;have Q:=p3.xK;refine cN (λh0=>?_) λh0=>?_
  ·have g:j=0:=by simpa using h0
   have hfr:bV x.asked a=none/\1<=d.a/\d.a<=16384:=by
    rcases me with⟨B,_⟩|⟨_,B,U,_⟩
    ·exact absurd g B
    ·exact⟨o.k.fresh B,U.1,U.2.1⟩
   have C:=o.mi.gO (size:=d.a) (e:=j) hfr.1 hc O (λ_=>hfr.2.2) Q;have hmc:(x.gO a d.a j (H'.sp.st.count 2)).cU=x.cU+1:=by
    unfold Me.gO Me.count Me.eM;rw[zB g,zB g,zB rfl];rfl
   refine aG (o3.b.rS rfl (χ o3.ra O a λs' u1 e4 hr4=>aG (o3.cB e4 hr4 λu2 e5 o5=>?_)));have hb5:bW u2 σ.size (qB d):=e5.cA (e4.cA hb3 λhq=>by have:=(o.f.qa _ hq).2.1;omega) λ(hx:σ.size=xb)=>by omega
   refine⟨λm=>bW m xb (nm _ mb s' kns most)/\bW m σ.size (qB d),⟨o5.b,hb5⟩,aG (D9 (c:=.s) (y:=kns) (λm E=>E.1) rfl (D9 (c:=bN) (y:=d.a) (λm E=>E.2) rfl (D9 (c:=bN) (y:=d.b) (λm E=>E.2) rfl ?_)))⟩;refine Rk o5.rk O (a,d.a,d.b) (λu Y=>⟨Y.cA o5.b id,Y.cA hb5 id⟩) λs2 u3 e6 hr6=>⟨⟨e6.cA o5.b o5.uM.2.2.2.2.2,e6.cA hb5 λhq=>?_⟩,aG (o5.wJ e6 hr6 λu4 e7 o7=>?_)⟩
   ·have:=(o.f.qk _ hq).2.1;omega
   have kk:=km1 g;have hsum:(x.gO a d.a j (H'.sp.st.count 2)).sum=rQ (kn++[(a,d.a,d.b)]):=by
    rw[C.s,kk.asked];unfold rQ;rw[kP];rfl
   refine⟨λm=>bO u4 m,Ext.refl _ _,aG (bW.rH (c:=bN) (y:=most) o7.b rfl (Wl2 o7.b (bR.fP o7.rk) (by rw[zJ,sI];omega) (λq hq=>by have:=kk.arg q hq;omega) ⟨Ext.refl _ _,aG (o7.BE _ λu5 e8 o8=>?_)⟩))⟩;refine hR j u5 _ H' held' s0' P' _ _ _ _ _ _ _ _ ⟨o8,C,kk,?_,?_⟩ rfl kp X ⟨((((((bO.to (e.trans M)).trans (tM K)).trans (tA e4)).trans (tX e5)).trans (tK e6)).trans (tX e7) |>.trans (tX e8)),wE (λb h=>(G b h).imp id λh=>zI W h) (λb h=>h.imp id λh=>zI (zI W K.1) h.1) (λb h=>h.imp id λh=>zI (zI (zI (zI W K.1) e4.1) e5.1) h.1)⟩
   ·rw[zJ,sI,hmc];have:=o.al;omega
   ·have B:=yg ((if j=0 then(x.forget a).add a d.a else x).count j true) (H'.sp.st.count 2:Nat)
    have U:=zv (if j=0 then(x.forget a).add a d.a else x) j true
    have V:(if j=0 then(x.forget a).add a d.a else x).dO=x.dO:=by split<;>rfl
    have h4:=o.pk;have M:(x.gO a d.a j (H'.sp.st.count 2)).dO=(Me.eM ((if j=0 then(x.forget a).add a d.a else x).count j true) (H'.sp.st.count 2:Nat)).dO:=rfl
    have e2:(x.gO a d.a j (H'.sp.st.count 2)).sum=(Me.eM ((if j=0 then(x.forget a).add a d.a else x).count j true) (H'.sp.st.count 2:Nat)).sum:=rfl
    refine⟨O,?_⟩;rw[←hsum,M,B.2.2.2.2.1,U.2.1,V,h4.2,e2,B.2.2.2.2.2.2]
  ·have g:j≠0:=by simpa using h0
   have C:ly (x.gO a d.a j (H'.sp.st.count 2)):=by
    have B:x.gO a d.a j (H'.sp.st.count 2)=x.jj a j (H'.sp.st.count 2):=by
     unfold Me.gO Me.jj Me.count;rw[zA g,zA g,zA g,zA g]
    rw[B];exact o.mi.jj (o2.p.m.nodup) (λh=>absurd h g) hc Q
   have hmc:(x.gO a d.a j (H'.sp.st.count 2)).cU=x.cU:=by
    unfold Me.gO Me.count Me.eM;rw[zA g,zA g]
   refine hR j w _ H' held' s0' P' _ _ _ _ _ _ _ _ ⟨o3,C,km2 g,by rw[hmc];exact o.al,?_⟩ rfl kp X ⟨(bO.to (e.trans M)).trans (tM K),wE (λb h=>(G b h).imp id λh=>zI W h) (λ_=>.inl) (λ_=>.inl)⟩;have h4:=o.pk;have h5:(x.gO a d.a j (H'.sp.st.count 2)).sum=x.sum:=by unfold Me.gO Me.count Me.eM;rw[zA g,zA g]
   have h6:(x.gO a d.a j (H'.sp.st.count 2)).dO=x.dO:=by
    unfold Me.gO Me.count Me.eM;rw[zA g,zA g];exact zA aC
   exact⟨by rw[h5,h6];exact h4.1,by rw[h6];exact h4.2⟩
 have k0:d.kd≠120:=by simpa using hk0
 refine cN (λhk=>?_) λhk1=>?_
 ·have N:d.kd=121:=by simpa using hk
  refine aG (o2.b.rP rfl (A.rI rfl (OA o2.p o.mi hc d.th ax hat.2 λj w ts H' held' s0' P' K p3 G kp fe=>?_)));have o3:=o2.fQ K p3 rfl G;have X:=Wmf (H':=H') N x ax j;have Q:=p3.xK;refine cN (λh0=>?_) λh0=>?_
  ·have g:j=0:=by simpa using h0
   obtain⟨b0,E,hlv⟩:∃b,bV H.live ax=some b/\H'.live=cT H.live ax:=by
    rcases fe with⟨B,_⟩|⟨_,_,B,_⟩|⟨_,b,E,_,hl⟩
    ·exact absurd g B
    ·exact absurd g B
    ·exact⟨b,E,hl⟩
   obtain⟨kk,hv,hlen⟩:=O8 (D:=H'.sp.st.count 2) o.k kp.1 g hlv E o2.p.hi.lk;have C:=o.mi.jj (e:=j) (D:=H'.sp.st.count 2) o2.p.m.nodup (λ_=>hv) hc Q;refine Kh (a:=.s) (bb:=bN) (λ(l:Sl) (i:Int) u=>∃k:Nat,i=k/\k<=kn.length/\Ext (λb=>w.size<=b) w u/\bR l 3 (kD ((kn.take k).filter λq=>!(q.1==ax))) u (λb=>w.size<=b)) (λ_ i _=>kn.length-i.toNat) ⟨0,rfl,O,Ext.refl _ _,⟨rfl,.inl ⟨rfl,rfl⟩⟩⟩ ?_;rintro(l:Sl) (i:Int) u ⟨k,rfl,hk,Y,hl⟩;have eu0:bO w u:=⟨Y.1,λb z _=>Y.2 b z O⟩;have ou:=o3.fr eu0;have hknl:kns.len=kn.length:=by have:=ou.rk.1;rw[UB]at this;omega
   have hll:l.len<=k:=by
    have B:((kn.take k).filter λq:Kn=>!(q.1==ax)).length*3=l.len*3:=by have:=hl.1;rw[UB]at this;exact this
    have U:=na (λq:Kn=>!(q.1==ax)) (kn.take k);rw[zO,qN hk]at U;omega
   refine aG (ou.b.rS rfl (cH (λhlt=>?_) λhge=>?_))
   ·have hk':k<kn.length:=by simp only at hlt;omega
    have hg:kn[k]?=some kn[k]:=cL _;generalize kn[k]=q at hg;have htk:kn.take (k+1)=kn.take k++[q]:=by rw[zf,hg];rfl
    refine aG (ou.b.rS rfl (BL (bR.fP ou.rk) hg λbb o' S=>dJ (S 0 _ rfl) (cN (λZ=>?_) λheq=>?_)))
    ·have Z:¬q.1=ax:=by simpa using Z
     refine aG (ou.b.rS rfl (BL (bR.fP ou.rk) hg λbb o' S=>dJ (S 0 _ rfl) (dJ (S 1 _ rfl) (dJ (S 2 _ rfl) ?_))));refine bR.push (F:=λb=>w.size<=b) (vs:=v3 q) hl (λb z=>by have:=Y.1;show w.size<=b;omega) rfl rfl (by simp[v3,dM]) O O λs' u' hsl eu' hrow'=>?_;refine bZ (m:=k+1) O O ⟨⟨k+1,rfl,O,Y.trans eu',?_⟩,O⟩;rw[htk,vP,uz (by simpa using Z),List.filter_nil,Bv];exact hrow'
    ·have heq:q.1=ax:=by simpa using heq
     refine bZ (m:=k+1) O O ⟨⟨k+1,rfl,O,Y,?_⟩,O⟩;rw[htk,vP,tx (by simp[heq]),List.filter_nil,km];exact hl
   ·have hkk:k=kn.length:=by simp only at hge;omega
    subst hkk;rw[zm]at hl;refine aG (o3.wJ (bO.to eu0) (aI.mono (aI.cut hl) λb _ z=>.inr ⟨z.1,z.2⟩) λu2 e9 o4=>?_);refine hR j u2 _ H' held' s0' P' _ _ _ _ _ _ _ _ ⟨o4,C,kk,?_,?_⟩ rfl kp X ⟨(((bO.to (e.trans M)).trans (tM K)).trans (bO.to eu0)).trans (tX e9),wE (λb h=>(G b h).imp id λh=>zI W h) (λ_=>.inl) (λb h=>h.imp id λh=>zI (zI W K.1) h.1)⟩
    ·have:(x.jj ax j (H'.sp.st.count 2)).cU=x.cU:=by
      unfold Me.jj Me.count Me.eM;rw[zB g,zB g,zA aB];rfl
     rw[this];exact o.al
    ·have h4:=o.pk;obtain⟨vv,hvv⟩:=hv;have hvr:=o.mi.v _ (KK hvv);have h5:(x.jj ax j (H'.sp.st.count 2)).sum=x.sum-vv:=by
      unfold Me.jj Me.count Me.eM;rw[zB g,zB g,zA aB];unfold Me.forget;rw[hvv];rfl
     have B:=yg ((if j=0 then x.forget ax else x).count j false) (H'.sp.st.count 2:Nat)
     have U:=zv (if j=0 then x.forget ax else x) j false
     have V:(if j=0 then x.forget ax else x).dO=x.dO:=by split<;>rfl
     have h6:(x.jj ax j (H'.sp.st.count 2)).dO=(Me.eM ((if j=0 then x.forget ax else x).count j false) (H'.sp.st.count 2:Nat)).dO:=rfl
     have h7:(x.jj ax j (H'.sp.st.count 2)).sum=(Me.eM ((if j=0 then x.forget ax else x).count j false) (H'.sp.st.count 2:Nat)).sum:=rfl
     have h8:(x.jj ax j (H'.sp.st.count 2)).dO=x.dO:=by
      rw[h6,B.2.2.2.2.1,U.2.1,V];have:((if j=0 then x.forget ax else x).count j false).sum=x.sum-vv:=by rw[←B.2.2.2.2.2.2,←h7];exact h5
      rw[this];exact zA (by simp only at hvr;omega)
     simp only at hvr;exact⟨by rw[h5,h8];omega,by rw[h8];exact h4.2⟩
  ·have g:j≠0:=by simpa using h0
   have hlv:H'.live=H.live:=by
    rcases fe with⟨_,B,_⟩|⟨_,_,_,B⟩|⟨_,b,_,B,_⟩
    ·rw[B]
    ·exact B
    ·exact absurd B g
   have C:=o.mi.jj (a:=ax) (e:=j) (D:=H'.sp.st.count 2) o2.p.m.nodup (λh=>absurd h g) hc Q;have hf:(x.jj ax j (H'.sp.st.count 2)).cU=x.cU/\(x.jj ax j (H'.sp.st.count 2)).sum=x.sum/\(x.jj ax j (H'.sp.st.count 2)).dO=x.dO:=by
    have h4:=o.pk;unfold Me.jj Me.count Me.eM;rw[zA g,zA g];exact⟨rfl,rfl,zA aC⟩
   exact hR j w _ H' held' s0' P' _ _ _ _ _ _ _ _ ⟨o3,C,o.k.rY kp.1 g hlv,by rw[hf.1];exact o.al,by rw[hf.2.1,hf.2.2];exact o.pk⟩ rfl kp X ⟨(bO.to (e.trans M)).trans (tM K),wE (λb h=>(G b h).imp id λh=>zI W h) (λ_=>.inl) (λ_=>.inl)⟩
 have k1:d.kd≠121:=by simpa using hk1
 have X:∀H',qV d x x H':=λH'=>⟨by rw[zA O];omega,rp _,rp _,λh=>O⟩;refine C6 (λr w=>v1=w/\(r=true->d.kd=2\/d.kd=3\/d.kd=8\/d.kd=9\/d.kd=10)) (λr w ⟨hw,hr⟩=>?_) λJ hJ=>?_
 ·subst hw;refine cN (λht=>?_) λhf=>hR 0 v1 L H held s0 P x _ _ _ _ _ _ _ (o.fr (e.trans M)) rfl (Qf.refl _) (X H) ⟨bO.to (e.trans M),λ_=>.inl⟩;have N:=hr ht;refine⟨λm=>bO v1 m,Ext.refl _ _,aG (bW.rH (c:=.p) (y:=some ⟨L.p,0,none⟩) o2.b rfl (aG (bW.rH (c:=.s) (y:=addrs) o2.b rfl (bW.rH (c:=bN) (y:=d.kd) A rfl (bW.rH (c:=bN) (y:=d.th) A rfl (bW.rH (c:=bN) (y:=d.a) A rfl (bW.rH (c:=bN) (y:=d.b) A rfl (bW.rH (c:=bN) (y:=d.of) A rfl (bW.rH (c:=bN) (y:=d.pl) A rfl (bW.rH (c:=bN) (y:=d.va) A rfl (bW.rH (c:=.str) (y:=d.s) A rfl ?_)))))))))))⟩;refine Bs o2.p.h (gc.bK o2.p.e) o2.p.hi o2.p.cf (by have:=o2.p.pg;omega) (bR.fP o2.ra) d di N λa' e' n' w ts H' K V dq=>?_;obtain⟨held',s0',hi'⟩:=dq.hi;have p3:=o2.p.step K V hi' dq.kp (dq.ph o2.p.ph);have o3:=o2.fQ (K.sub λb z=>.inl z) p3 rfl λb z=>z.1;exact hR e' w _ H' held' s0' _ x _ _ _ _ _ _ _ ⟨o3,o.mi,o.k.same dq.live dq.kp.1,o.al,o.pk⟩ rfl dq.kp (X H') ⟨(bO.to (e.trans M)).trans (tM (K.sub λb z=>.inl z)),wE (λb z=>z.1.imp id λh=>zI W h) (λ_=>.inl) (λ_=>.inl)⟩
 ·exact cN (λh=>hJ _ _ ⟨rfl,λ_=>.inl (by simpa using h)⟩) λ_=>cN (λh=>hJ _ _ ⟨rfl,λ_=>.inr (.inl (by simpa using h))⟩) λ_=>cN (λh=>hJ _ _ ⟨rfl,λ_=>.inr (.inr (.inl (by simpa using h)))⟩) λ_=>cN (λh=>hJ _ _ ⟨rfl,λ_=>.inr (.inr (.inr (.inl (by simpa using h))))⟩) λ_=>hJ _ _ ⟨rfl,λh=>.inr (.inr (.inr (.inr (by simpa using h))))⟩
end Go.Ar
namespace Go.Ar
open Go Go.Vc Go.Proofs
open Go.Vc (bV dE cT)
variable {σ w w':Hp}{l:Sl}{ds:List fL}
def vt (d:fL):Bool:=d.kd==120||d.kd==121
theorem OO (d:fL):(if vt d=true then 1 else 0)=if d.kd=120\/d.kd=121 then 1 else 0:=by
 unfold vt;by_cases h1:d.kd=120
 ·simp[h1]
 ·by_cases h2:d.kd=121
  ·simp[h2]
  ·simp[h1,h2]
set_option maxRecDepth 8000 in
theorem PH (gl:Gl σ)(gc:Gc σ)(b b1 b2 b3 b4 b5:Int)(hd:j2 σ l ds)(most:Int)(hmost:most<=60){R:Option Addr->Hp->Prop}(h0:∀σ',bO σ σ'->R none σ')
 (h1:∀σ' xb L H held s0 P mb am x Qa Qk addrs ad kns kn mo,OP σ σ' xb L H held s0 P mb am x Qa Qk addrs ad kns kn mo->x.calls=ds.countP vt->(H.cf.aF:Int)=b1->ds.length<=60->R (some ⟨xb,0,none⟩) σ'):Yb.c b b1 b2 b3 b4 b5 l most σ R:=by
 refine Yb.o ?_;have hl:=hd.len;have hbig:=hd.Ad;refine nw (cs:=[.int .i64 b,.int .i64 b1,.int .i64 b2,.int .i64 b3,.int .i64 b4,.int .i64 b5]) λv hz e g=>g.rI rfl (g.rI rfl (g.rI rfl (g.rI rfl (g.rI rfl (g.rI rfl (WQ.o ?_))))));refine nw (cs:=[.int .i64 b,.int .i64 b1,.int .i64 b2,.int .i64 b3,.int .i64 b4,.int .i64 b5]) λv1 Y e1 Q=>Q.gD rfl ?_;have s:=e.trans e1;have j:=e1.cA g id;refine V6 (λr w=>v1=w/\(r=false->b1<=128/\(ds.length:Int)<=most)) (λr w ⟨hw,hr⟩=>?_) λJ hJ=>cH (λh=>hJ _ _ ⟨rfl,λh=>by cases h⟩) λh=>ME (hJ _ _ ⟨rfl,λh'=>by have:=rU h';exact⟨O,O⟩⟩);subst hw;refine cN (λht=>h0 v1 s) λhf=>?_;obtain⟨hpg,hlm⟩:=hr hf;refine j.rI rfl (j.rI rfl (j.rI rfl (j.rI rfl (j.rI rfl (j.rI rfl ?_)))));refine ON (gl.bK s) (gc.bK s).gd b b1 b2 b3 b4 b5 (λv2 Z=>cJ rfl (h0 v2 (s.trans Z))) λv2 L0 N H0 Z hsN hNv hh D=>cF rfl ?_;have X:=s.trans Z;refine FI X hh.cut D.hi D.cf D.ph (by have:=D.pg;omega) (λb g=>⟨by have:=s.1;have:N<=b:=g.1;omega,g.2⟩) (EG gl gc.gd) λw mb am e3 hm1 hm2 p=>bY.intro (cF rfl (cF rfl ?_));refine nw (cs:=nm L0.p mb ⟨none,0,0⟩ ⟨none,0,0⟩ 0) λw1 Y e4 V=>?_;have p4:=p.fr e4;have hmb:=p.b.lt;have ham:=p.m.lt;have K:=p.e.1;have o4:OP σ w1 w.size L0 H0 [] (Vy H0.cf.aF) _ mb am pf (λ_=>False) (λ_=>False) ⟨none,0,0⟩ [] ⟨none,0,0⟩ [] 0:=
  ⟨⟨p4,V,⟨rfl,.inl ⟨rfl,rfl⟩⟩,⟨rfl,.inl ⟨rfl,rfl⟩⟩,⟨K,λhP=>by have:=(p.pP _ hP).2;omega,O,O,id,id⟩,λb g=>g.elim,λb g=>g.elim,λb g=>g.elim⟩,Ct,⟨rfl,by rw[D.live];rfl,by simp,rfl⟩,by simp,by simp[pf]⟩
 refine ZP (a:=bN) (λ(z:Int) u=>∃(i:Nat) (L:dP) (H:Hw) (held:List Pc) (s0:Sp) (P:Rg) (x:Me) (Qa Qk:Rg) (addrs:Sl) (ad:List Int) (kns:Sl) (kn:List Kn) (mo:Int),z=i/\i<=ds.length/\OP σ u w.size L H held s0 P mb am x Qa Qk addrs ad kns kn mo/\x.calls=(ds.take i).countP vt/\(H.cf.aF:Int)=b1) (λz _=>ds.length-z.toNat)
  ⟨0,L0,H0,_,_,_,_,_,_,_,_,_,_,_,rfl,O,o4,by simp[pf,Me.calls],D.pg⟩ ?_
 rintro(z:Int) u ⟨i,L,H,held,s0,P,x,Qa,Qk,addrs,ad,kns,kn,mo,rfl,hi,o,hcl,hpp⟩;refine cH (λhlt=>?_) λhge=>?_
 ·have F:ds[i]?=some (ds[i]' O):=cL _;generalize (ds[i]' O)=d at F;have G:=hd.i _ (zE F);have hle:(ds.take i).countP vt<=60:=by
   have h1:=uR (p:=vt) (l:=ds.take i);rw[zO]at h1;omega
  refine hd.rd o.f.p.e F λba oa B=>dJ (B _ o.f.p.e 0 _ rfl) (dJ (B _ o.f.p.e 1 _ rfl) (dJ (B _ o.f.p.e 2 _ rfl) (dJ (B _ o.f.p.e 3 _ rfl) (dJ (B _ o.f.p.e 4 _ rfl) (dJ (B _ o.f.p.e 5 _ rfl) (dJ (B _ o.f.p.e 6 _ rfl) (Cz (B _ o.f.p.e 7 _ rfl) ?_)))))));refine Tc o gc O d G λer u2 L' H' C W P' y Qa' Qk' A aa E M U o' hLp kp po _=>?_;refine bZ (m:=i+1) O O ⟨⟨i+1,L',H',C,W,P',y,Qa',Qk',A,aa,E,M,U,rfl,O,o',?_,by rw[kp.2.1];exact hpp⟩,O⟩;rw[po.calls,hcl,←OO,zf,F,tO];simp[qw]
 ·have S:i=ds.length:=by omega
  subst S;rw[zm]at hcl;exact h1 u w.size L H held s0 P mb am x Qa Qk addrs ad kns kn mo o hcl hpp O
end Go.Ar
namespace Go.Proofs
open Go.Vc
set_option maxRecDepth 100000
end Go.Proofs
namespace Go.Ar
open Go Go.Vc Go.Proofs
open Go.Vc (bV dE cT)
variable {σ w w':Hp}{l:Sl}{ds:List fL}
end Go.Ar
namespace Go.Ar
open Go Go.Vc Go.Proofs
open Go.Vc (bV dE cT)
variable {σ v w w':Hp}{F:Rg}{tb:List bX}{asked:List (Int×Int)}{bs:List Bk}{H:Hw}{x:Me}{kn:List Kn}{held:List Pc}{s0:Sp}
theorem KI.Jk (k:KI H x kn)(hl:jG H.live bs){b:Bk}(hb:b∈bs):∃q∈kn,yw H.tb q=(b.1,b.2.1,b.2.2.1):=by
 have a:(b.1,b.2.1,b.2.2.1)∈H.live.map (λe=>(e.1,e.2.2.1,e.2.2.2.1)):=zD.2 ⟨_,(hl.mem b).1 hb,rfl⟩;rw[k.live]at a;obtain⟨q,g,d⟩:=zD.1 a;exact⟨q,g,d⟩
theorem Ru (tb:List bX)(size align:Int) : -1<=mU tb size align/\mU tb size align+1<((tb.length+1:Nat):Int):=by
 unfold mU;cases h:gR tb size align with
 | none=>simp only;omega
 | some k=>
  have:=(yI.1 h).1;simp only;omega
theorem KI.cls (k:KI H x kn)(hl:jG H.live bs){b:Bk}(hb:b∈bs) : -1<=b.2.2.1/\b.2.2.1+1<((H.tb.length+1:Nat):Int):=by
 obtain⟨q,_,a⟩:=k.Jk hl hb;have d:mU H.tb q.2.1 q.2.2=b.2.2.1:=congrArg (λe:Int×Int×Int=>e.2.2) a;rw[←d];exact Ru _ _ _
theorem KI.size (k:KI H x kn)(hl:jG H.live bs){b:Bk}(hb:b∈bs){c:Nat}(hc:b.2.2.1=(c:Int)):b.2.1=((H.tb.getD c ⟨8,1,1⟩).size:Int):=by
 obtain⟨q,i,d⟩:=k.Jk hl hb;have a:mU H.tb q.2.1 q.2.2=b.2.2.1:=congrArg (λe:Int×Int×Int=>e.2.2) d;have m:(ug H.tb q.2.1 q.2.2).1=b.2.1:=congrArg (λe:Int×Int×Int=>e.2.1) d;have g:=k.arg q i;rw[←m];unfold ug;rw[zB ⟨g.2.1,g.2.2⟩];unfold mU at a;cases h:gR H.tb q.2.1 q.2.2 with
 | none=>rw[h]at a;simp only at a;omega
 | some j=>
  rw[h]at a;simp only at a ⊢;have:j=c:=by omega
  rw[this]
end Go.Ar
namespace Go.Proofs
open Go.Vc
set_option maxRecDepth 100000
end Go.Proofs
namespace Go.Ar
open Go Go.Vc Go.Proofs
open Go.Vc (bV dE cT)
variable {σ w w':Hp}{l:Sl}{ds:List fL}{tb:List bX}{asked:List (Int×Int)}{bs:List Bk}{H:Hw}{x:Me}{kn:List Kn}{held:List Pc}{s0:Sp}
end Go.Ar
namespace Go.Ar
open Go Go.Vc Go.Proofs
open Go.Vc (bV dE cT)
variable {σ v w w':Hp}{F:Rg}{L:dP}{H:Hw}{held:List Pc}{s0:Sp}{n a b j:Nat}{f g f' g':Nat->Bool}
def kS (l:List (Nat×Nat)):List Value:=l.flatMap λr=>[.int .i64 (r.1:Int),.int .i64 (r.2:Int)]
theorem VQ (l:List (Nat×Nat)):(kS l).length=l.length*2:=by
 unfold kS
 induction l with
 | nil=>rfl
 | cons b bs ih=>rw[mM,zJ,ih];simp;omega
theorem Eu (l m:List (Nat×Nat)):kS (l++m)=kS l++kS m:=by simp[kS]
theorem Mp {l:List (Nat×Nat)}{i:Nat}{r:Nat×Nat}(h:l[i]?=some r):(kS l)[i*2]?=some (.int .i64 (r.1:Int))/\(kS l)[i*2+1]?=some (.int .i64 (r.2:Int)):=by
 unfold kS
 induction l generalizing i with
 | nil=>simp at h
 | cons a l ih=>
  rw[mM];cases i with
  | zero=>
   simp only[vG,Option.some.injEq]at h;subst h;exact⟨rfl,rfl⟩
  | succ i=>
   rw[AP]at h;have:=ih h;rw[zi aE,zi aE];simp only[zQ,lU];rw[show(i+1)*2-(0+1+1)=i*2 by omega,show(i+1)*2+1-(0+1+1)=i*2+1 by omega];exact this
theorem sN {s:Sl}{l:List (Nat×Nat)}(hs:cP s 2 (kS l) σ F){i:Nat}{r:Nat×Nat}(hb:l[i]?=some r){K:Addr->Prop}(hK:∀bb o,cell σ ⟨bb,o+0,none⟩=some (.int .i64 (r.1:Int))->cell σ ⟨bb,o+1,none⟩=some (.int .i64 (r.2:Int))->K ⟨bb,o,none⟩):Ix s.a s.len (i:Int) 2 K:=by
 have m:=(cS.1 hb).1;have p:s.len=l.length:=by have:=hs.1;rw[VQ]at this;omega
 obtain⟨b,o,e,g⟩:=hs.cell (Mp hb).1;obtain⟨w,u,d,j⟩:=hs.cell (Mp hb).2;rw[e]at d;cases d;rw[e];refine ix O O ?_;rw[add_lit];refine hK b _ ?_ ?_
 ·rw[show o+(i:Int).toNat*2+0=o+i*2 by omega];exact g
 ·rw[show o+(i:Int).toNat*2+1=o+(i*2+1) by omega];exact j
theorem Η {s:Sl}{l:List (Nat×Nat)}(ho:bR s 2 (kS l) σ F){i:Nat}(hi:i<l.length){K:Addr->Prop}(hK:∀a,(∀b,s.a=some ⟨b,0,none⟩->a=⟨b,i*2,none⟩)->K a):Ix s.a s.len (i:Int) 2 K:=by
 have g:s.len=l.length:=by have:=ho.1;rw[VQ]at this;omega
 rcases ho.2 with⟨h0,_⟩|⟨b,cs,hq,hsa,hb,hle,hcl,ht⟩
 ·omega
 ·rw[hsa];refine ix O O ?_;rw[add_lit];refine hK _ λe d=>?_;rw[hsa]at d;cases d;simp
theorem RS (l:List (Nat×Nat))(s m m':Nat):(kS (l++[(s,m)])).set (l.length*2+1) (.int .i64 (m':Int))=kS (l++[(s,m')]):=by
 rw[Eu,Eu,wL _ _ (by rw[VQ];omega),VQ,show l.length*2+1-l.length*2=1 by omega];rfl
def bl (n:Nat)(f:Nat->Bool):List Bool:=(List.range n).map f
def mG (n:Nat)(f:Nat->Bool):List Value:=(bl n f).map Value.bool
theorem Ub (n:Nat)(f:Nat->Bool):(mG n f).length=n:=by simp[mG,bl]
theorem AD (hj:j<n):(bl n f)[j]?=some (f j):=by simp[bl,hj]
theorem yD (hj:j<n):(mG n f)[j]?=some (.bool (f j)):=by unfold mG;rw[ze,AD hj];rfl
theorem Ft (h:∀p,p<n->f p=g p):mG n f=mG n g:=by
 unfold mG bl;rw[kA λp a=>h p (zW.1 a)]
theorem FK {x:Bool}(hv:g j=x)(hg:∀p,p≠j->g p=f p):(mG n f).set j (.bool x)=mG n g:=by
 apply zp;intro i;by_cases hi:i<n
 ·rw[nq,Ub];by_cases hji:j=i
  ·subst hji;rw[zB rfl,zB hi,yD hi,hv]
  ·rw[zA hji,yD hi,yD hi,hg i λh=>hji h.symm]
 ·rw[zX (by rw[nM,Ub];omega),zX (by rw[Ub];omega)]
theorem Ae (n:Nat):(List.replicate n [Value.bool false]).flatten=mG n λ_=>false:=by
 induction n with
 | zero=>rfl
 | succ n ih=>
  rw[xr,wH,ih];unfold mG bl;rw[zw];simp
theorem C1 (hb:bW w a (mG n f))(hF:F a):cP ⟨some ⟨a,0,none⟩,n,n⟩ 1 (mG n f) w F:=
 bR.fP (Q:=F) ⟨by rw[Ub];exact(m9 n).symm,.inr ⟨a,_,hF,rfl,hb,zC _,by rw[Ub];exact(m9 n).symm,zm⟩⟩
theorem IB {s:Sl}(hs:cP s 1 (mG n f) σ F)(hj:j<n){K:Bool->Prop}(hK:K (f j)):Ix s.a s.len (j:Int) 1 λa=>j8 a σ K:=by
 have g:s.len=n:=by have:=hs.1;rw[Ub]at this;omega
 obtain⟨b,o,e,d⟩:=hs.cell (yD (f:=f) hj);rw[e];refine ix O O (lu ?_ hK);rw[add_lit,show o+(j:Int).toNat*1=o+j by omega];exact d
set_option maxRecDepth 8000 in
theorem Mv {s:Sl}(hs:cP s 1 (mG n f) σ λb=>b<σ.size)(hn:n<=1000){R:Sl->Hp->Prop}(hR:∀u w rs,bO σ w->gg (bl n f) n rs->bR u 2 (kS rs) w (λb=>σ.size<=b)->R u w):Qy.c s σ R:=by
 refine Qy.o ?_;have hsl:s.len=n:=by have:=hs.1;rw[Ub]at this;omega
 refine Kh (a:=.s) (bb:=bN) (λ(out:Sl) (t:Int) w=>∃(k:Nat) (rs:List (Nat×Nat)),t=k/\k<=n/\Ext (λb=>σ.size<=b) σ w/\gg (bl n f) k rs/\bR out 2 (kS rs) w (λb=>σ.size<=b)) (λ_ t _=>n-t.toNat) ⟨0,[],rfl,O,Ext.refl _ _,gg.nil _,⟨rfl,.inl ⟨rfl,rfl⟩⟩⟩ ?_;rintro(out:Sl) (t:Int) w ⟨k,rs,rfl,hk,ew,hrs,hout⟩;have A:bO σ w:=⟨ew.1,λb E _=>ew.2 b E O⟩;have hol:out.len=rs.length:=by have:=hout.1;rw[VQ]at this;omega
 have hrl:=hrs.len;refine cH (λhlt=>?_) λhge=>?_
 ·have C:k<n:=by omega
  have z:=AD (f:=f) C;refine IB (aH.bK hs A) C ?_;cases hfk:f k with
  | false=>
   rw[hfk]at z;exact cJ rfl (bZ (m:=k+1) O O ⟨⟨k+1,rs,rfl,O,ew,hrs.skip z,hout⟩,O⟩)
  | true=>
   rw[hfk]at z;refine cF rfl (V6 (λr X=>w=X/\r=decide (∃q,rs[rs.length-1]?=some q/\q.1+q.2=k)) (λr X ⟨hw,hr⟩=>?_) λJ hJ=>cH (λh0=>?_) λh0=>hJ _ _ ⟨rfl,?_⟩)
   ·subst hw;refine cN (λW=>?_) λU=>?_
    ·rw[hr]at W;obtain⟨q,G,he⟩:=ot W;have g:rs.length-1<rs.length:=(cS.1 G).1;obtain⟨L0,y,rfl⟩:∃L0 y,rs=L0++[y]:=by
      rcases List.eq_nil_or_concat rs with h|⟨L0,y,h⟩
      ·rw[h]at g;simp at g
      ·exact⟨L0,y,by simpa using h⟩
     have p:(L0++[y]).length-1=L0.length:=by simp
     rw[p,zi (zC _)]at G;simp at G;subst G;obtain⟨s0,x⟩:=y;have hll:(L0++[(s0,x)]).length=L0.length+1:=by simp
     have V:=hrs.pos (s0,x) aA;have N:(L0++[(s0,x)])[L0.length]?=some (s0,x):=by rw[zi (zC _)];simp
     have B:=RS L0 s0 x (x+1);simp only at he V;refine bZ (m:=L0.length) O O (sN (bR.fP hout) N λbb Z P D=>dJ D (bZ (m:=x+1) aC O (Η hout O λad M=>?_)));refine hout.st (j:=L0.length*2+1) (by rw[VQ];omega) (λb E=>by rw[M b E,add_lit]) λu S d=>?_;rw[B]at d;exact bZ (m:=k+1) O O ⟨⟨k+1,_,rfl,O,ew.trans S,hrs.grow z he,d⟩,O⟩
    ·rw[hr]at U;have H:=rU U;refine bR.push (F:=λb=>σ.size<=b) (vs:=[.int .i64 (k:Int),.int .i64 1]) hout (λb E=>by have:=ew.1;show σ.size<=b;omega) rfl rfl (by simp[dM]) O O λs' u Y S d=>?_;refine bZ (m:=k+1) O O ⟨⟨k+1,rs++[(k,1)],rfl,O,ew.trans S,hrs.new z λr L Q=>H ⟨r,L,Q⟩,?_⟩,O⟩;rw[Eu];exact d
   ·have g:rs.length-1<rs.length:=by omega
    have e:rs[rs.length-1]?=some rs[rs.length-1]:=cL g;generalize rs[rs.length-1]=q at e;have V:=hrs.pos q (zE e);refine bZ (m:=rs.length-1) O O (sN (bR.fP hout) e λbb Z P D=>dJ P (bZ (m:=rs.length-1) O O (sN (bR.fP hout) e λbb Z P D=>dJ D (bZ (m:=q.1+q.2) O O (hJ _ _ ⟨rfl,?_⟩)))));rw[mX,zR];constructor
    ·intro h;have:((q.1+q.2:Nat):Int)=(k:Int):=by simpa using h
     exact⟨q,e,O⟩
    ·rintro⟨q',h1,h2⟩;rw[e]at h1;cases h1;rw[h2];simp
   ·have:rs=[]:=w9.1 O;subst this;rw[eq_comm,decide_eq_false_iff_not];rintro⟨q,h,_⟩;simp at h
 ·have K:k=n:=by omega
  subst K;exact hR out w rs A hrs hout
def jC (bs:List Bk)(p:Nat):Bool:=bs.any λb=>decide (b.1/256<=(p:Int))&&decide ((p:Int)<=(b.1+b.2.1-1)/256)
def j3 (H:Hw)(p:Nat):Bool:=decide (gf H.sp.st p≠0)
theorem JI {bs:List Bk}(hl:jG H.live bs)(hi:HI H held s0)(p:Nat):jC bs p=true↔AU H.live p:=by
 unfold jC AU;simp only[zq,zF,zR];constructor
 ·rintro⟨b,hb,h1,h2⟩;exact⟨(b.1,b),(hl.mem b).1 hb,h1,h2⟩
 ·rintro⟨e,he,h1,h2⟩;have a:=(hi.lv e he).1;exact⟨e.2,(hl.mem _).2 (by rw[a];exact he),by rw[a];exact h1,by rw[a];exact h2⟩
theorem Pm {bs:List Bk}{k:Nat}{b:Bk}(h:bs[k]?=some b)(p:Nat):jC (bs.take (k+1)) p=(jC (bs.take k) p||(decide (b.1/256<=(p:Int))&&decide ((p:Int)<=(b.1+b.2.1-1)/256))):=by
 unfold jC;rw[zf,h,AG];simp
theorem Τ (s:Sp)(k:Nat):gX s ((k:Int)*256)=if gf s.st k=0 then 7 else 0:=by
 unfold gX gf;rw[zA O,show((k:Int)*256).toNat/256=k by omega]
structure Bw (σ w:Hp) (n a b:Nat) (f g:Nat->Bool):Prop where
 e:bO σ w
 la:bW w a (mG n f)
 lb:bW w b (mG n g)
 h1:σ.size<=a
 h2:σ.size<=b
 h3:a≠b
theorem Bw.fr (h:Bw σ w n a b f g)(e:bO w w'):Bw σ w' n a b f g:=⟨h.e.trans e,e.cA h.la id,e.cA h.lb id,h.h1,h.h2,h.h3⟩
theorem Bw.ext (h:Bw σ w n a b f g)(hf:∀p,p<n->f p=f' p)(hg:∀p,p<n->g p=g' p):Bw σ w n a b f' g':=⟨h.e,by rw[←Ft hf];exact h.la,by rw[←Ft hg];exact h.lb,h.h1,h.h2,h.h3⟩
theorem Bw.cB (h:Bw σ w n a b f g)(hj:j<n){x:Bool}(hv:f' j=x)(hf:∀p,p≠j->f' p=f p){K:aP}(hK:∀w',Ext (· = a) w w'->Bw σ w' n a b f' g->K w'):Ix (some ⟨a,0,none⟩) n (j:Int) 1 λad=>dG ad (.bool x) w K:=by
 refine ix O O ?_;rw[add_lit,show 0+(j:Int).toNat*1=j by omega];refine h.la.s0 (by rw[Ub];omega) λr o2 d=>hK r o2.ext ⟨Ext.fresh h.e o2.ext λi (s:i=a)=>by have:=h.h1;omega,?_,o2.ext.cA h.lb λ(m:b=a)=>h.h3 m.symm,h.h1,h.h2,h.h3⟩;rw[←FK hv hf];exact d
theorem Bw.CR (h:Bw σ w n a b f g)(hj:j<n){x:Bool}(hv:g' j=x)(hf:∀p,p≠j->g' p=g p){K:aP}(hK:∀w',Ext (· = b) w w'->Bw σ w' n a b f g'->K w'):Ix (some ⟨b,0,none⟩) n (j:Int) 1 λad=>dG ad (.bool x) w K:=by
 refine ix O O ?_;rw[add_lit,show 0+(j:Int).toNat*1=j by omega];refine h.lb.s0 (by rw[Ub];omega) λr o2 d=>hK r o2.ext ⟨Ext.fresh h.e o2.ext λi (s:i=b)=>by have:=h.h2;omega,o2.ext.cA h.la λ(m:a=b)=>h.h3 m,?_,h.h1,h.h2,h.h3⟩;rw[←FK hv hf];exact d
theorem BS {K:eJ [.s,.s]}{body:eJ [.s,.s]->Prop}(P:Sl->Sl->Hp->Prop)(h1:∀r s w,P r s w->K r s w)(h2:∀J:eJ [.s,.s],(∀r s w,P r s w->J r s w)->body J):Jn [.s,.s] K body:=Jn.intro (h2 K h1)
set_option maxRecDepth 16000 in
theorem Wl8 (h:HH σ F L H)(hi:HI H held s0)(hpg:1<=H.cf.aF)(h128:H.cf.aF<=128){R:Sl->Sl->Int->Hp->Prop}
 (hR:∀u x w ru rx bs,bO σ w->jG H.live bs->gg (bl H.cf.aF (jC bs)) H.cf.aF ru->gg (bl H.cf.aF λp=>j3 H p && !jC bs p) H.cf.aF rx->bR u 2 (kS ru) w (λb=>σ.size<=b)->bR x 2 (kS rx) w (λb=>σ.size<=b)->R u x 0 w):Qj.c (aW L.p) σ R:=by
 refine Qj.o ?_;refine Fa h hpg λv e=>cF rfl (JX (h.bK e) λv1 e1=>?_);have E1:=e.trans e1;obtain⟨n,hn⟩:∃n,H.cf.aF=n:=⟨_,rfl⟩;rw[hn]at hpg h128 hR ⊢;refine BS (λlv rs w=>∃a b,lv=⟨some ⟨a,0,none⟩,n,n⟩/\rs=⟨some ⟨b,0,none⟩,n,n⟩/\Bw σ w n a b (λ_=>false) (λ_=>false)) (λlv rs w2 ⟨a,b,hlv,Z,B⟩=>?_) λJ V=>⟨?_,?_⟩
 ·subst hlv;subst Z;refine EK (h.bK B.e) hi λs w3 bs e3 hl C=>?_;have hsl:s.len=bs.length:=by have:=C.1;rw[HY]at this;omega
  have hbl:bs.length<=1000000:=by rw[hl.len];exact hi.iP
  have hal:=B.la.lt;have hbl':=B.lb.lt;refine ZP (a:=bN) (λ(t:Int) u=>∃k:Nat,t=k/\k<=bs.length/\Bw σ u n a b (jC (bs.take k)) (λ_=>false)/\bR s 4 (ja bs) u (λq=>w2.size<=q)/\w3.size<=u.size) (λt _=>bs.length-t.toNat) ⟨0,rfl,O,(B.fr e3).ext (λp _=>rfl) (λp _=>rfl),C,zC _⟩ ?_;rintro(t:Int) u ⟨k,rfl,hk,Bu,hrw,hzu⟩;refine cH (λS=>?_) λU=>?_
  ·have Q:k<bs.length:=by omega
   have W:bs[k]?=some bs[k]:=cL _;generalize bs[k]=bk at W;have D:=(hl.mem bk).1 (zE W);have h8:=hi.iQ D;simp only at h8;have hhi:(bk.1+bk.2.1-1)/256<(n:Int):=by
    have ht:=GX hi (p:=((bk.1+bk.2.1-1)/256).toNat) ⟨_,D,by simp only;omega,by simp only;omega⟩;have:=Er ht;rw[hi.sl,hn]at this;omega
   refine DM (bR.fP hrw) W λbb o X=>dJ (X 0 _ rfl) (dJ (X 1 _ rfl) (dJ (X 2 _ rfl) (dJ (X 3 _ rfl) ?_)));refine nw (cs:=[.int .i64 0,.int .i64 0,.int .i64 0,.int .i64 0]) λu2 hz2 f2 c2=>c2.s1 aA λu3 o3 c3=>c3.s1 aA λu4 o4 c4=>c4.s1 aA λu5 o5 c5=>c5.s1 aA λu6 o6 c6=>?_;have f6:bO u u6:=Ext.fresh (Ext.fresh (Ext.fresh (Ext.fresh f2 o3.ext λi hi=>O) o4.ext λi hi=>O) o5.ext λi hi=>O) o6.ext λi hi=>by omega
   have hux:=e3.1;refine c6.rI rfl (nz aB (ar (by rw[Xq O];omega) (by rw[Xq O];omega) ?_));rw[Xq O];refine ZP (a:=bN) (λ(Y:Int) x=>∃j:Nat,Y=j/\bk.1/256<=(j:Int)/\(j:Int)<=(bk.1+bk.2.1-1)/256+1/\Bw σ x n a b (λp=>jC (bs.take k) p||(decide (bk.1/256<=(p:Int))&&decide ((p:Int)<(j:Int)))) (λ_=>false)/\bW x u.size (mZ bk)/\bR s 4 (ja bs) x (λq=>w2.size<=q)/\u.size<=x.size) (λY _=>((bk.1+bk.2.1-1)/256+1).toNat-Y.toNat)
    ⟨(bk.1/256).toNat,O,O,O,(Bu.fr f6).ext (λp _=>?_) (λp _=>rfl),c6,aI.bK hrw f6,f6.1⟩ ?_
   ·have:(decide (bk.1/256<=(p:Int))&&decide ((p:Int)<(((bk.1/256).toNat:Nat):Int)))=false:=by
     rw[Dy,decide_eq_false_iff_not,decide_eq_false_iff_not];omega
    rw[this,xU]
   ·rintro(Y:Int) x ⟨j,rfl,hj1,hj2,Bx,cx,g,hzx⟩;refine cx.rI rfl (cx.rI rfl (ar O O (ar O O (nz aB (ar (by rw[Xq O];omega) (by rw[Xq O];omega) ?_)))));rw[Xq O];refine cH (λhle=>?_) λhgt=>?_
    ·refine Bx.cB (f':=λp=>jC (bs.take k) p||(decide (bk.1/256<=(p:Int))&&decide ((p:Int)<((j+1:Nat):Int)))) O ?_ (λp hp=>?_) λy d By=>?_
     ·simp only[nX,zF,zR];right;omega
     ·congr 2
      rw[decide_eq_decide];omega
     ·refine bZ (m:=j+1) O O ⟨⟨j+1,rfl,O,O,By,d.cA cx λ(hx:u.size=a)=>O,aI.bU g d λq _ (hq:w2.size<=q) (hh:q=a)=>O,by have:=d.1;omega⟩,O⟩
    ·refine bZ (m:=k+1) O O ⟨⟨k+1,rfl,O,Bx.ext (λp _=>?_) (λp _=>rfl),g,O⟩,O⟩;rw[Pm W]
     congr 2
     rw[decide_eq_decide];omega
  ·have K:k=bs.length:=by omega
   subst K;rw[zm]at Bu;refine ZP (a:=bN) (λ(t:Int) x=>∃k:Nat,t=k/\k<=n/\Bw σ x n a b (jC bs) (λp=>decide (p<k)&&(j3 H p && !jC bs p))) (λt _=>n-t.toNat) ⟨0,rfl,O,Bu.ext (λp _=>rfl) (λp _=>by simp)⟩ ?_;rintro(t:Int) x ⟨k,rfl,hk,Bx⟩;refine cH (λS=>?_) λU=>?_
   ·have Q:k<n:=by simp only at S;omega
    refine ar O O (RG (h.bK Bx.e) _ O λy d=>?_);have By:=Bx.fr d;refine V6 (λr w=>y=w/\r=(j3 H k && !jC bs k)) (λr w ⟨hw,hr⟩=>?_) λJ V=>?_
    ·subst hw;subst hr;refine By.CR (g':=λp=>decide (p<k+1)&&(j3 H p && !jC bs p)) Q aA (λp hp=>?_) λz A Bz=>bZ (m:=k+1) O O ⟨⟨k+1,rfl,O,Bz⟩,O⟩
     congr 1
     rw[decide_eq_decide];omega
    ·rw[Τ];by_cases hm:gf H.sp.st k=0
     ·rw[zB hm];exact cF rfl (V _ _ ⟨rfl,by unfold j3;rw[zb (by simpa using hm)];rfl⟩)
     ·rw[zA hm];exact cJ rfl (IB (C1 (F:=λ_=>True) By.la trivial) Q (V _ _ ⟨rfl,by unfold j3;rw[zU hm,r8]⟩))
   ·have K:k=n:=by simp only at U;omega
    subst K;have Bf:=Bx.ext (f':=jC bs) (g':=λp=>j3 H p && !jC bs p) (λp _=>rfl) λp hp=>by rw[zU hp,r8]
    refine Mv (C1 Bf.la Bf.la.lt) O λu1 y ru d hru P=>?_;have By:=Bf.fr d;refine Mv (C1 By.lb By.lb.lt) O λu2 z rx A g M=>?_;have hx1:=Bx.e.1;have hy1:=d.1;exact hR u1 u2 z ru rx bs (By.e.trans A) hl hru g (aI.mono (aI.bK P A) λq _ (hq:x.size<=q)=>by show σ.size<=q;omega) (aI.mono M λq _ (hq:y.size<=q)=>by show σ.size<=q;omega)
 ·have N:=E1.1;refine mk (n:=n) O O λy hy d G=>mk (n:=n) O O λz hz A E=>V _ _ _ ⟨_,_,rfl,rfl,(E1.trans d).trans A,?_,?_,N,O,O⟩
  ·rw[←Ae];exact A.cA G id
  ·rw[←Ae];exact E
 ·have N:=E1.1;refine mk (n:=n) O O λy hy d G=>mk (n:=n) O O λz hz A E=>V _ _ _ ⟨_,_,rfl,rfl,(E1.trans d).trans A,?_,?_,O,N,O⟩
  ·rw[←Ae];exact E
  ·rw[←Ae];exact A.cA G id
end Go.Ar
namespace Go.Proofs
open Go.Vc
set_option maxRecDepth 100000
def WZ.h:Hn:=.q .o2 (.q .o4 (.q (.q .o2 .aJ) (.q (.o 12) (.q (.q .o2 .aK) (.q .o5 (.q .o3 (.q (.q .o1 (.k (.loop [(11,.I)] (.q (.q .o7 (.c .l .l)) (.q (.k (.q .o4 (.jc [(12,.I)] (.q .o4 (.c .o5 (.cV (.tail 8 (RI.ops 8) [.op])))) (.q (.q (.cV (.seq [.op,.op,.op,.op,.dA false 3 (RI.ops 3),.op,.dA false 7 (RI.ops 7),.op,.dA false 14 [.op,.op,.op,.dA true 4 (RI.ops 4),.op,.dA true 4 (RI.ops 4)]])) .aK) (.q .o3 (.k (.loop [(14,.I)] (.q (.q .o7 (.c .l .l)) (.q (.k (.q (.q .o5 .aK) .o5)) .o3))))))))) .o3))))) (.q .o1 (.q (.q .o1 (.k (.loop [(15,.I),(16,.I)] (.q (.q .o3 (.c .l .l)) (.q (.k (.q .o1 (.q (.q .o1 (.k (.loop [(17,.I),(18,.I)] (.q (.q (.cV (.seq [.op,.op,.op,.dA true 2 [.op,.op]])) (.c .l .l)) (.q (.k (.q (.o 15) (.q .o2 (.c .o1 .l)))) .o3))))) (.jc [(15,.I)] (.q .o5 (.c .o3 .l)) (.q .o8 .aK))))) .o3))))) (.q (.cV (.seq [.op,.op,.op,.op,.op,.op,.op,.op,.op,.dA true 1 [.op],.op])) .l))))))))))
theorem WZ.o {a b c d e f:Int}{g:Sl}{h:Hp}{i:aO}(j:aV #[.I a,.I b,.I c,.I d,.I e,.I f] 65 h λj k=>aQ j 0 k λl=>aQ j 1 k λm=>aQ j 2 k λn=>aQ j 3 k λo=>aQ j 4 k λp=>aQ j 5 k λq=>Yb.c l m n o p q g 60 k λr s=>If r.isNone (Xm.c s λt u=>i t u) (bF r 0 s λw=>Qj.c w s λx y z aa=>If (z != 0) (i false aa) (bM ((j.add 1).add 0) aa λab=>Mk (if 0>ab then 0 else ab) (if 0>ab then 0 else ab) 8 3 [.I 0] aa λac ad=>WR [bN] (λae=>ae 0 ad) λaf (ag:Int) ah=>bL (((x.len:Nat):Int)+((y.len:Nat):Int)) λai=>If (ag<ai) (aV #[.I 0,.I 0] 92 ah λaj ak=>aR aj 0 (.I 0) ak λal=>aR aj 1 (.I 0) al λam=>Jn [bN] (λ(an:Int) ao=>aQ aj 0 ao λap=>bY (λaq ar=>bY (λau av=>bY (λaw ax=>If aw (i false ax) (aQ aj 0 ax λay=>WR [bN] (λaz=>az ay ax) λa0 (a1:Int) a2=>aQ aj 0 a2 λa3=>aQ aj 1 a2 λa4=>bL (a3+a4) λa5=>If (a1<a5) (Ix ac.a ac.len a1 1 λa6=>bM a6 a2 λa7=>If (a7 != 0) (i false a2) (Ix ac.a ac.len a1 1 λa8=>dG a8 (.I an) a2 λa9=>bL (a1+1) λba=>a0 ba a9)) (bL (ag+1) λbb=>af bb a2))) λbc=>If au (bc true av) (bY (λbd be=>bY (λbf bg=>bc bf bg) λbh=>If bd (Xp.c x y ag be λbi bj=>bh bi bj) (bh false be)) λbk=>If (ag>0) (bk (ag != ((x.len:Nat):Int)) av) (bk false av))) λbl=>If aq (bl true ar) (aQ aj 0 ar λbm=>
 aQ aj 1 ar λbn=>bL (bm+bn) λbo=>bl (decide (bo>(if 0>ab then 0 else ab))) ar)) λbp=>If (ap<0) (bp true ao) (aQ aj 1 ao λbq=>bp (decide (bq<1)) ao)) λbr=>If (ag<((x.len:Nat):Int)) (Ix x.a x.len ag 2 λbs=>aQ bs 0 am λbt=>aQ bs 1 am λbu=>aR aj 0 (.I bt) am λbv=>aR aj 1 (.I bu) bv λbw=>br 1 bw) (bL (ag-((x.len:Nat):Int)) λbx=>Ix y.a y.len bx 2 λbz=>aQ bz 0 am λb0=>aQ bz 1 am λb1=>aR aj 0 (.I b0) am λb2=>aR aj 1 (.I b1) b2 λb3=>br 2 b3)) (WR [bN,bN] (λb4=>b4 0 0 ah) λb5 (b6:Int) (b7:Int) b8=>If (b7<(if 0>ab then 0 else ab)) (WR [bN,bN] (λb9=>b9 0 0 b8) λca (cb:Int) (cc:Int) cd=>bY (λce cf=>If ce (bF r 0 cf λch=>bL (b7*256) λci=>bL (ci+cc) λcj=>Zn.c ch cj cf λck cl cm cn co cp=>aV #[.I 0,.I 0,.I 0,.I 0] 76 cp λcq cr=>aR cq 0 (.I ck) cr λcs=>aR cq 1 (.I cl) cs λct=>aR cq 2 (.I cm) ct λcu=>aR cq 3 (.I cn) cu λcv=>If (co==0) (bL (cc+8) λcw=>ca 1 cw cv) (bL (cc+8) λcx=>ca cb cx cv)) (Jn [bN] (λ(cy:Int) cz=>Ix ac.a ac.len b7 1 λc0=>bM c0 cz λc1=>If (!((cb==1)==(c1==1))) (i false cz) (bL (b7+1) λc2=>b5 cy c2 cz)) λc3=>Ix ac.a ac.len b7 1 λc4=>bM c4 cf λc5=>If (c5>0) (bL (b6+1) λc6=>c3 c6 cf) (c3 b6 cf))) λc7=>If (cc<256) (c7 (cb==0) cd) (c7 false cd)) (bF r 0 b8 λc9=>
 Yf.c c9 b8 λda db dc dd de df dg dh di dj dk dl=>bY (λdm dn=>i dm dn) λdp=>If (b6==dj) (Xm.c dl λdq dr=>dp dq dr) (dp false dl)))))):WZ.c a b c d e f g h i:=Wa Tryz.func12 (x:=WZ.h) (R0 j)
end Go.Proofs
namespace Go.Ar
open Go Go.Vc Go.Proofs
open Go.Vc (bV dE cT)
variable {σ v w w':Hp}{F G:Rg}{l:Sl}{ds:List fL}{n kb j:Nat}{f g:Nat->Int}{u x:Sl}{ru rx:List (Nat×Nat)}
def iV (n:Nat)(f:Nat->Int):List Value:=(List.range n).map λp=>.int .i64 (f p)
theorem yv (n:Nat)(f:Nat->Int):(iV n f).length=n:=by simp[iV]
theorem y9 (hj:j<n):(iV n f)[j]?=some (.int .i64 (f j)):=by simp[iV,hj]
theorem LM (h:∀p,p<n->f p=g p):iV n f=iV n g:=by
 unfold iV;exact kA λp a=>by rw[h p (zW.1 a)]
theorem Wo5 {y:Int}(hv:g j=y)(hg:∀p,p≠j->g p=f p):(iV n f).set j (.int .i64 y)=iV n g:=by
 apply zp;intro i;by_cases hi:i<n
 ·rw[nq,yv];by_cases hji:j=i
  ·subst hji;rw[zB rfl,zB hi,y9 hi,hv]
  ·rw[zA hji,y9 hi,y9 hi,hg i λh=>hji h.symm]
 ·rw[zX (by rw[nM,yv];omega),zX (by rw[yv];omega)]
theorem OD (n:Nat):(List.replicate n [Value.int .i64 0]).flatten=iV n λ_=>0:=by
 induction n with
 | zero=>rfl
 | succ n ih=>
  rw[xr,wH,ih];unfold iV;rw[zw];simp
structure Sw (v w:Hp) (n kb:Nat) (f:Nat->Int) (u x:Sl) (ru rx:List (Nat×Nat)):Prop where
 e:bO v w
 k:bW w kb (iV n f)
 u:cP u 2 (kS ru) w λb=>b≠kb
 x:cP x 2 (kS rx) w λb=>b≠kb
 hk:v.size<=kb
theorem Sw.fr (h:Sw v w n kb f u x ru rx)(e:bO w w'):Sw v w' n kb f u x ru rx:=⟨h.e.trans e,e.cA h.k id,aH.bU h.u e λ_ _ _=>id,aH.bU h.x e λ_ _ _=>id,h.hk⟩
theorem Sw.ext (h:Sw v w n kb f u x ru rx)(hf:∀p,p<n->f p=g p):Sw v w n kb g u x ru rx:=⟨h.e,by rw[←LM hf];exact h.k,h.u,h.x,h.hk⟩
theorem Sw.set (h:Sw v w n kb f u x ru rx)(hj:j<n){y:Int}(hv:g j=y)(hf:∀p,p≠j->g p=f p){K:aP}(hK:∀w',Ext (· = kb) w w'->Sw v w' n kb g u x ru rx->K w'):Ix (some ⟨kb,0,none⟩) n (j:Int) 1 λad=>dG ad (.int .i64 y) w K:=by
 refine ix O O ?_;rw[add_lit,show 0+(j:Int).toNat*1=j by omega];refine h.k.s0 (by rw[yv];omega) λr o2 d=>hK r o2.ext ⟨Ext.fresh h.e o2.ext λi (s:i=kb)=>by have:=h.hk;omega,?_,aH.bU h.u o2.ext λb _ a (m:b=kb)=>a m,aH.bU h.x o2.ext λb _ a (m:b=kb)=>a m,h.hk⟩;rw[←Wo5 hv hf];exact d
theorem Sw.rd (h:Sw v w n kb f u x ru rx)(hj:j<n){K:Int->Prop}(hK:K (f j)):Ix (some ⟨kb,0,none⟩) n (j:Int) 1 λad=>eW .i64 ad w K:=by
 refine ix O O (nV ?_ hK);rw[add_lit,show 0+(j:Int).toNat*1=j by omega,h.k.cell];exact y9 hj
theorem DA {K:eJ [.i .i64,.s]}{body:eJ [.i .i64,.s]->Prop}(P:Int->Sl->Hp->Prop)(h1:∀r s w,P r s w->K r s w)(h2:∀J:eJ [.i .i64,.s],(∀r s w,P r s w->J r s w)->body J):Jn [.i .i64,.s] K body:=Jn.intro (h2 K h1)
theorem Lm {K:eJ [.i .i64]}{body:eJ [.i .i64]->Prop}(P:aN)(h1:∀r w,P r w->K r w)(h2:∀J:eJ [.i .i64],(∀r w,P r w->J r w)->body J):Jn [.i .i64] K body:=Jn.intro (h2 K h1)
theorem Wfa (hu:cP u 2 (kS ru) σ F)(hx:cP x 2 (kS rx) σ G)(bu:∀r∈ru,r.1+r.2<=1000)(bx:∀r∈rx,r.1+r.2<=1000)(su:ru.Pairwise λa b=>a.1+a.2<b.1)(sx:rx.Pairwise λa b=>a.1+a.2<b.1)
 {i:Nat} (h0:1<=i) (hn:i≠ru.length) (hi:i<ru.length+rx.length) (hl:ru.length<=1000/\rx.length<=1000) {R:aO} (hR:R false σ):Xp.c u x (i:Int) σ R:=by
 refine Xp.o ?_;have V:u.len=ru.length:=by have:=hu.1;rw[VQ]at this;omega
 have S:x.len=rx.length:=by have:=hx.1;rw[VQ]at this;omega
 have d:∀{s:Sl} {F:Rg} {rs:List (Nat×Nat)} {q:Nat},cP s 2 (kS rs) σ F->(∀r∈rs,r.1+r.2<=1000)->rs.Pairwise (λa b=>a.1+a.2<b.1)->1<=q->q<rs.length->rs.length<=1000 →
  Ar .i64 ((q:Int)-1) λj=>Ix s.a s.len j 2 λC=>eW .i64 (C.add 0) σ λD=>Ar .i64 ((q:Int)-1) λy=>Ix s.a s.len y 2 λA=>eW .i64 (A.add 1) σ λB=>Ar .i64 (D+B) λp=>Ix s.a s.len (q:Int) 2 λK=>eW .i64 (K.add 0) σ λH=>R (decide (p≥H)) σ:=by
  intro s F rs q hs hb hp h1 hq hl;have g:rs[q-1]?=some rs[q-1]:=cL O;have M:rs[q]?=some rs[q]:=cL hq;have P:=zy.1 hp (q-1) q O hq O;generalize rs[q-1]=r1 at g P;generalize rs[q]=r2 at M P;have Y:=hb r1 (zE g);refine bZ (m:=q-1) O O (sN hs g λL o e z=>dJ e (bZ (m:=q-1) O O (sN hs g λL o e z=>dJ z (bZ (m:=r1.1+r1.2) O O (sN hs M λL o e z=>dJ e ?_)))));rw[zb O];exact hR
 refine DA (λE s w=>σ=w/\((E=(i:Int)/\s=u/\i<ru.length)\/(E=((i-ru.length:Nat):Int)/\s=x/\ru.length<i))) (λE s w ⟨U,Q⟩=>?_) λJ N=>cH (λX=>?_) λW=>N _ _ _ ⟨rfl,.inl ⟨rfl,rfl,O⟩⟩
 ·subst U;rcases Q with⟨rfl,rfl,h1⟩|⟨rfl,rfl,h1⟩
  ·exact d hu bu su h0 h1 hl.1
  ·exact d hx bx sx O O hl.2
 ·exact bZ (m:=i-ru.length) O O (N _ _ _ ⟨rfl,.inr ⟨rfl,rfl,O⟩⟩)
def mW (rs:List (Nat×Nat))(p:Nat):Bool:=rs.any λr=>decide (r.1<=p)&&decide (p<r.1+r.2)
theorem Gg {rs:List (Nat×Nat)}{p:Nat}:mW rs p=true↔gH rs p:=by
 unfold mW gH;simp only[zq,zF,zR]
theorem LC {rs:List (Nat×Nat)}{q:Nat}{r:Nat×Nat}(h:rs[q]?=some r)(p:Nat):mW (rs.take (q+1)) p=(mW (rs.take q) p||(decide (r.1<=p)&&decide (p<r.1+r.2))):=by
 unfold mW;rw[zf,h,AG];simp
def kf (ru rx:List (Nat×Nat))(q p:Nat):Int:=if mW (ru.take q) p then 1 else if mW (rx.take (q-ru.length)) p then 2 else 0
theorem Je {rs:List (Nat×Nat)}(hs:rs.Pairwise λa b=>a.1+a.2<b.1){q:Nat}{r:Nat×Nat}(h:rs[q]?=some r){p:Nat}(hp:r.1<=p):mW (rs.take q) p=false:=by
 rw[mn];intro hb;obtain⟨r',j,u,w⟩:=Gg.1 hb;obtain⟨i,e⟩:=zL j;have g:=(cS.1 e).1;rw[zO]at g;have d:=(cS.1 h).1;have s:=zy.1 hs i q O d O;have m:rs[i]?=some r':=by rw[zY]at e;rw[zB O]at e;exact e
 rw[cL O]at m;rw[cL d]at h;rw[Option.some.inj m,Option.some.inj h]at s;omega
theorem WmJ (su:ru.Pairwise λa b=>a.1+a.2<b.1)(sx:rx.Pairwise λa b=>a.1+a.2<b.1)(hd:∀p,gH ru p->¬gH rx p){q:Nat}{r:Nat×Nat}{k:Int}(h:(q<ru.length/\ru[q]?=some r/\k=1)\/(ru.length<=q/\rx[q-ru.length]?=some r/\k=2))(p:Nat) :
 (r.1<=p->p<r.1+r.2->kf ru rx q p=0)/\kf ru rx (q+1) p=if r.1<=p/\p<r.1+r.2 then k else kf ru rx q p:=by
 rcases h with⟨h1,h2,rfl⟩|⟨h1,h2,rfl⟩
 ·have w:q-ru.length=0:=by omega
  have i:q+1-ru.length=0:=by omega
  have g:=LC h2 p;unfold kf;rw[w,i,g,tz];have u:mW [] p=false:=rfl;rw[u];refine⟨λe _=>by rw[Je su h2 e];rfl,?_⟩;cases mW (ru.take q) p<;>by_cases d:r.1<=p/\p<r.1+r.2
  ·rw[zB d];simp[d]
  ·rw[zA d];have:(decide (r.1<=p)&&decide (p<r.1+r.2))=false:=by rw[Dy,decide_eq_false_iff_not,decide_eq_false_iff_not];omega
   rw[this];rfl
  ·rw[zB d];simp
  ·rw[zA d];simp
 ·have i:q+1-ru.length=q-ru.length+1:=by omega
  have s:ru.take q=ru:=mc h1;have m:ru.take (q+1)=ru:=mc O;have g:=LC h2 p;have j:r.1<=p->p<r.1+r.2->mW ru p=false:=λe d=>by
   rw[mn];exact λh=>hd p (Gg.1 h) ⟨r,zE h2,e,d⟩
  unfold kf;rw[i,s,m,g];refine⟨λe d=>by rw[j e d,Je sx h2 e];rfl,?_⟩;by_cases d:r.1<=p/\p<r.1+r.2
  ·rw[zB d,j d.1 d.2];simp[d]
  ·rw[zA d];have:(decide (r.1<=p)&&decide (p<r.1+r.2))=false:=by rw[Dy,decide_eq_false_iff_not,decide_eq_false_iff_not];omega
   rw[this,xU]
set_option maxRecDepth 16000 in
theorem P0 (gl:Gl σ)(gc:Gc σ)(b b1 b2 b3 b4 b5:Int)(hd:j2 σ l ds){R:aO}(hR:∀σ',bO σ σ'->R true σ'):WZ.c b b1 b2 b3 b4 b5 l σ R:=by
 refine WZ.o ?_;refine nw (cs:=[.int .i64 b,.int .i64 b1,.int .i64 b2,.int .i64 b3,.int .i64 b4,.int .i64 b5]) λv hz e M=>M.rI rfl (M.rI rfl (M.rI rfl (M.rI rfl (M.rI rfl (M.rI rfl ?_)))));refine PH (gl.bK e) (gc.bK e) b b1 b2 b3 b4 b5 (hd.bK e) 60 aB (λv1 W=>?_) λv1 xb L H held s0 P mb am m Qa Qk addrs ad kns kn mo o hcl hpp Z=>cF rfl ?_
 ·exact cJ rfl (FY (gl.bK (e.trans W)) (gc.bK (e.trans W)).gd λv2 e2=>hR v2 ((e.trans W).trans e2))
 have E:=e.trans o.f.p.e;have hi:=o.f.p.hi;have hp1:=o.f.p.cf.1;have jZ:=o.f.p.pg;refine aG (o.f.b.rP rfl (Wl8 o.f.p.h hi hp1 jZ λu x w d rx D ew hl s B N F=>cF rfl ?_));obtain⟨n,hn⟩:∃n,H.cf.aF=n:=⟨_,rfl⟩;rw[hn]at hpp hp1 jZ s B;subst hpp;have hbw:=(o.f.p.e.trans ew).cA M id;refine hbw.gD rfl ?_;rw[zA O];refine mk (n:=n) O O λw1 hz1 W hb1=>?_;rw[OD]at hb1;have ulen:=s.len;have xlen:=B.len;have hul:u.len=d.length:=by have:=N.1;rw[VQ]at this;omega
 have hxl:x.len=rx.length:=by have:=F.1;rw[VQ]at this;omega
 have iu:∀p,gH d p↔p<n/\jC D p=true:=λp=>by
  rw[s.cN];refine and_congr_right λY=>?_;rw[AD Y];simp
 have ixx:∀p,gH rx p↔p<n/\(j3 H p && !jC D p)=true:=λp=>by
  rw[B.cN];refine and_congr_right λY=>?_;rw[AD (f:=λp=>j3 H p && !jC D p) Y];simp
 have hdis:∀p,gH d p->¬gH rx p:=λp C h2=>by
  have h3:=((iu p).1 C).2;have h4:=((ixx p).1 h2).2;rw[h3]at h4;simp at h4
 have S1:Sw v1 w1 n w.size (kf d rx 0) u x d rx:=by
  have hzw:=ew.1;refine⟨ew.trans W,?_,?_,?_,hzw⟩
  ·rw[LM (g:=λ_=>0) λp _=>?_]
   ·exact hb1
   ·unfold kf;rw[Nat.zero_sub,tz,tz];rfl
  ·exact aH.bK (aH.mono (aH.cut (bR.fP N)) λb _ M=>by have:=M.2;omega) W
  ·exact aH.bK (aH.mono (aH.cut (bR.fP F)) λb _ M=>by have:=M.2;omega) W
 refine ZP (a:=bN) (λ(z:Int) y=>∃q:Nat,z=q/\q<=d.length+rx.length/\Sw v1 y n w.size (kf d rx q) u x d rx) (λz _=>d.length+rx.length-z.toNat) ⟨0,rfl,O,S1⟩ ?_;rintro(z:Int) y ⟨q,rfl,hq,S⟩;refine bZ (m:=d.length+rx.length) O O (cH (λhlt=>?_) λhge=>?_)
 ·refine nw (cs:=[.int .i64 0,.int .i64 0]) λy1 hzy f1 c1=>c1.s1 aA λy2 o2 c2=>c2.s1 aA λy3 o3 c3=>?_;have f3:bO y y3:=Ext.fresh (Ext.fresh f1 o2.ext λi hi=>O) o3.ext λi hi=>by omega
  have S3:=S.fr f3;refine Lm (λk U=>∃r:Nat×Nat,((q<d.length/\d[q]?=some r/\k=1)\/(d.length<=q/\rx[q-d.length]?=some r/\k=2))/\bO y U/\bW U y.size [.int .i64 (r.1:Int),.int .i64 (r.2:Int)]) (λk U ⟨r,hk,e4,Q⟩=>?_) λJ hJ=>cH (λhqu=>?_) λhqx=>?_
  ·have S4:=S.fr e4;have hr:1<=r.2/\r.1+r.2<=n:=by
    rcases hk with⟨_,h,_⟩|⟨_,h,_⟩
    ·exact s.pos r (zE h)
    ·exact B.pos r (zE h)
   have hks:=WmJ s.lp B.lp hdis hk;have hd1:decide ((r.2:Int)<1)=false:=zb O;have hd2:decide (((r.1+r.2:Nat):Int)>(n:Int))=false:=zb O;refine Q.rI rfl (bY.intro (cF (zb O) (Q.rI rfl ?_)));rw[hd1];refine bY.intro (cF rfl (Q.rI rfl (Q.rI rfl (bZ (m:=r.1+r.2) O O ?_))));rw[hd2];refine V6 (λt y'=>bO U y'/\t=false) (λt y5 ⟨e5,ht⟩=>?_) λJ4 hJ4=>cF rfl ?_
   ·subst ht;have S5:=S4.fr e5;have c5:=e5.cA Q id;have hyk:y.size≠w.size:=by have:=S.k.lt;omega
    refine cF rfl (c5.rI rfl (ZP (a:=bN) (λ(p1:Int) y'=>∃j:Nat,p1=j/\r.1<=j/\j<=r.1+r.2/\Sw v1 y' n w.size (λp=>if r.1<=p/\p<j then k else kf d rx q p) u x d rx/\bW y' y.size [.int .i64 (r.1:Int),.int .i64 (r.2:Int)]) (λp1 _=>r.1+r.2-p1.toNat) ⟨r.1,rfl,O,O,S5.ext λp _=>by rw[zA O],c5⟩ ?_))
    rintro(p1:Int) y' ⟨j,rfl,hj1,hj2,S',c'⟩;refine c'.rI rfl (c'.rI rfl (bZ (m:=r.1+r.2) O O (cH (λhlt2=>?_) λhge2=>?_)))
    ·refine S'.rd (j:=j) O ?_;have hz0:(if r.1<=j/\j<j then k else kf d rx q j)=0:=by rw[zA O];exact(hks j).1 O O
     rw[hz0];refine cF rfl (S'.set (j:=j) (g:=λp=>if r.1<=p/\p<j+1 then k else kf d rx q p) O (by rw[zB O]) (λp Y=>?_) λy6 e6 S6=>bZ (m:=j+1) O O ⟨⟨j+1,rfl,O,O,S6,e6.cA c' hyk⟩,O⟩)
     by_cases h7:r.1<=p/\p<j
     ·rw[zB h7,zB O]
     ·rw[zA h7,zA O]
    ·refine bZ (m:=q+1) O O ⟨⟨q+1,rfl,O,S'.ext λp _=>?_⟩,O⟩;rw[(hks p).2];by_cases h7:r.1<=p/\p<r.1+r.2
     ·rw[zB h7,zB O]
     ·rw[zA h7,zA O]
   ·refine bY.intro (cH (λhq0=>?_) λhq0=>bY.intro (cF rfl (hJ4 _ _ ⟨Ext.refl _ _,rfl⟩)));refine bY.intro (cN (λhne=>(Wfa S4.u S4.x (λr hr=>by have:=s.pos r hr;omega) (λr hr=>by have:=B.pos r hr;omega) s.lp B.lp (i:=q) O ?_ O O (hJ4 _ _ ⟨Ext.refl _ _,rfl⟩))) λ_=>(hJ4 _ _ ⟨Ext.refl _ _,rfl⟩));intro h;rw[hul,h]at hne;simp at hne
  ·have hqu':q<d.length:=by omega
   have hg:d[q]?=some d[q]:=cL _;generalize d[q]=r at hg;refine sN S3.u hg λbb oo d0 d1=>dJ d0 (dJ d1 (c3.s1 aA λU o4 Q=>Q.s1 aA λy5 o5 c5=>hJ _ _ ⟨r,.inl ⟨hqu',hg,rfl⟩,?_,c5⟩));exact Ext.fresh (Ext.fresh f3 o4.ext λi hi=>O) o5.ext λi hi=>by omega
  ·have hqx':q-d.length<rx.length:=by omega
   have hg:rx[q-d.length]?=some rx[q-d.length]:=cL _;generalize rx[q-d.length]=r at hg;refine bZ (m:=q-d.length) O O (sN S3.x hg λbb oo d0 d1=>dJ d0 (dJ d1 (c3.s1 aA λU o4 Q=>Q.s1 aA λy5 o5 c5=>hJ _ _ ⟨r,.inr ⟨O,hg,rfl⟩,?_,c5⟩)));exact Ext.fresh (Ext.fresh f3 o4.ext λi hi=>O) o5.ext λi hi=>by omega
 ·have hqq:q=d.length+rx.length:=by omega
  subst hqq;have hkf:∀p,p<n->kf d rx (d.length+rx.length) p=if jC D p then 1 else if j3 H p then 2 else 0:=λp Y=>by
   unfold kf;rw[mc O,mc O];by_cases C:jC D p=true
   ·rw[zB (Gg.2 ((iu p).2 ⟨Y,C⟩)),zB C]
   ·rw[zA (λh=>C ((iu p).1 (Gg.1 h)).2),zA C];by_cases h2:j3 H p=true
    ·rw[zB (Gg.2 ((ixx p).2 ⟨Y,by rw[h2];simpa using C⟩)),zB h2]
    ·rw[zA (λh=>h2 (by have:=((ixx p).1 (Gg.1 h)).2;simp at this;exact this.1)),zA h2]
  have Sk:=S.ext hkf;clear S hkf;refine Kh (a:=bN) (bb:=bN) (λ(c p3:Int) y'=>∃p:Nat,p3=p/\p<=n/\c=(((List.range p).countP (j3 H):Nat):Int)/\Sw v1 y' n w.size (λp=>if jC D p then 1 else if j3 H p then 2 else 0) u x d rx) (λ_ p3 _=>n-p3.toNat) ⟨0,rfl,O,by simp,Sk⟩ ?_
  clear Sk;rintro(c:Int) (p3:Int) y' ⟨p,rfl,Y,rfl,S⟩;have hcp:(List.range p).countP (j3 H)<=p:=by have:=uR (p:=j3 H) (l:=List.range p);rw[oW]at this;exact this
  refine cH (λhlt=>?_) λhge=>?_
  ·have hp':p<n:=by omega
   refine Kh (a:=bN) (bb:=bN) (λ(is k1:Int) y2=>∃j:Nat,k1=((8*j:Nat):Int)/\j<=32/\Sw v1 y2 n w.size (λp=>if jC D p then 1 else if j3 H p then 2 else 0) u x d rx/\((is=0/\∀i,i<j->(Un H ((p*256+8*i:Nat):Int)).isSome=false)\/(is=1/\∃i,i<32/\(Un H ((p*256+8*i:Nat):Int)).isSome=true))) (λ_ k1 _=>300-k1.toNat) ⟨0,rfl,O,S,.inl ⟨rfl,λi hi=>O⟩⟩ ?_
   rintro(is:Int) (k1:Int) y2 ⟨j,rfl,hj,S2,his⟩;refine V6 (λt y3=>y2=y3/\t=(decide (j<32)&&(is==0))) (λt y3 ⟨hw,ht⟩=>?_) λJ hJ=>cH (λh=>hJ _ _ ⟨rfl,by rw[zU O,r8]⟩) λh=>hJ _ _ ⟨rfl,by rw[zb O,sY]⟩;subst hw;refine cN (λhtt=>?_) λV=>?_
   ·rw[ht]at htt;obtain⟨hj',hi0⟩:=Bool.and_eq_true_iff.1 htt;have hj32:=ot hj';have his0:is=0:=by simpa using hi0
    rcases his with⟨_,hno⟩|⟨C,_⟩
    ·have o2:=o.fr S2.e;have box:∀{ty:Nat} {U:Hp} {a0 a1 a2 a3:Int} {K:aP},bO y2 U->(∀y5,bO y2 y5->K y5)->Nw (.cells #[.int .i64 0,.int .i64 0,.int .i64 0,.int .i64 0] ty (0,0)) U λX v26=>dG (X.add 0) (.int .i64 a0) v26 λv27=>dG (X.add 1) (.int .i64 a1) v27 λv28=>dG (X.add 2) (.int .i64 a2) v28 λv29=>dG (X.add 3) (.int .i64 a3) v29 K:=by
      intro ty U a0 a1 a2 a3 K e4 hK;refine nw (cs:=[.int .i64 0,.int .i64 0,.int .i64 0,.int .i64 0]) λu2 hz2 f2 c2=>c2.s1 aA λu3 o3 c3=>c3.s1 aA λu4 o4 Q=>Q.s1 aA λu5 o5 c5=>c5.s1 aA λu6 o6 c6=>hK u6 (e4.trans ?_);exact Ext.fresh (Ext.fresh (Ext.fresh (Ext.fresh f2 o3.ext λi hi=>O) o4.ext λi hi=>O) o5.ext λi hi=>O) o6.ext λi hi=>by omega
     refine aG (o2.f.b.rP rfl (bZ (m:=p*256) O O (bZ (m:=p*256+8*j) O O (TP o2.f.p.h _ (by unfold iF;omega) (λA hA=>?_) (λbk hbk y3 e3=>box e3 λy5 e5=>cJ rfl ?_) λhbk y3 e3=>box e3 λy5 e5=>cF rfl ?_))))
     ·obtain⟨k,hk⟩:=zL hA;exact(hi.wi.ga k A hk).kL
     ·exact bZ (m:=8*(j+1)) O O ⟨⟨j+1,rfl,O,S2.fr e5,.inr ⟨rfl,j,O,by rw[hbk];rfl⟩⟩,O⟩
     ·refine bZ (m:=8*(j+1)) O O ⟨⟨j+1,rfl,O,S2.fr e5,.inl ⟨his0,λi hi=>?_⟩⟩,O⟩;by_cases hij:i=j
      ·subst hij;rw[hbk];rfl
      ·exact hno i O
    ·omega
   ·rw[ht]at V;have hiff:(is==1)=jC D p:=by
     rw[mX,JI hl hi,RB hi];rcases his with⟨C,hno⟩|⟨C,hyes⟩
     ·have hj32:j=32:=by
       rw[C]at V;by_cases h:j<32
       ·rw[zU h]at V;simp at V
       ·omega
      subst hj32;rw[C];refine⟨λh=>by simp at h,λ⟨i,hi1,hi2⟩=>?_⟩;rw[hno i hi1]at hi2;cases hi2
     ·rw[C];exact⟨λ_=>hyes,λ_=>rfl⟩
    have hmt:jC D p=true->j3 H p=true:=λh=>zU (GX hi ((JI hl hi p).1 h));have G:(List.range (p+1)).countP (j3 H)=(List.range p).countP (j3 H)+if j3 H p then 1 else 0:=by
     rw[zw,tO];simp[qw]
    refine Lm (λc' y3=>y2=y3/\c'=(((List.range (p+1)).countP (j3 H):Nat):Int)) (λc' y3 ⟨hw,hc'⟩=>?_) λJ hJ=>S2.rd (j:=p) hp' ?_
    ·subst hw;subst hc';refine S2.rd (j:=p) hp' (cF ?_ (bZ (m:=p+1) O O ⟨⟨p+1,rfl,O,rfl,S2⟩,O⟩));rw[hiff];cases jC D p with
     | true=>rfl
     | false=>cases j3 H p<;>rfl
    ·cases hm:j3 H p with
     | true=>
      rw[hm]at G;have hpos:(if jC D p=true then(1:Int)else if true=true then 2 else 0)>0:=by split<;>simp
      exact cJ (zU hpos) (bZ (m:=(List.range (p+1)).countP (j3 H)) (by rw[G];simp) (by simp at G;omega) (hJ _ _ ⟨rfl,rfl⟩))
     | false=>
      rw[hm]at G;have ht0:jC D p=false:=by
       cases h:jC D p with
       | false=>rfl
       | true=>rw[hmt h]at hm;cases hm
      rw[ht0];exact cF rfl (hJ _ _ ⟨rfl,by rw[G];simp⟩)
  ·have hpn:p=n:=by omega
   subst hpn;have o2:=o.fr S.e;have hmap:(List.range p).countP (j3 H)=KW H.sp.st:=by
    have Z:H.sp.st.length=p:=by rw[hi.sl,hn]
    unfold KW;have W:(List.range p).map (λq=>gf H.sp.st q)=H.sp.st:=by
     apply List.ext_getElem
     ·simp[Z]
     ·intro i h3 h4;simp[gf,h4]
    conv=>rhs;rw[←W]
    rw[AI];refine A4 λq _=>?_;unfold j3;simp
   refine aG (o2.f.b.rP rfl (Bq o2.f.p.h hi o2.f.p.bP λy3 e3 so=>bY.intro (cJ (by rw[hmap];simp) ?_)));have E5:=(E.trans S.e).trans e3;exact FY (gl.bK E5) (gc.bK E5).gd λq eq=>hR q (E5.trans eq)
end Go.Ar
namespace Go.Ar
open Go Go.Vc Go.Proofs Go.ChangeShapes Go.WideShapes Go.RowKit Go.Deep
theorem GW {H:Type}{enc:TypeId×Value->H}{P:Program}{w:World}{base:Nat}{sp:Nat->Bool}{held:Bool}{fuel:Nat}{t:TypeId}{c:Value}{y:DataW H×List MemPlace}
 (ht:P.underlying t=some .bool) (h:DataW.trod enc P w base sp held fuel t [c]=some y):∃n,c=.bool n/\y=(.lit (.bool n),[]):=by
 cases fuel with
 | zero=>simp[DataW.trod]at h
 | succ fuel=>
  cases c<;>simp[DataW.trod,ht]at h
  rename_i n;exact⟨n,rfl,by simpa using h.symm⟩
theorem Ce {P:Program}{w:World}{t:TypeId}{f0 f1:Field}{cs:Array Value}{fuel:Nat}{p:List MemPlace}{x y:Bool}(ht:P.underlying t=some (.struct #[f0,f1]))(hone:oneCellFields P #[f0,f1]=true)(hC:P.cellsOf t=2)
 (h0:P.underlying f0.type=some .bool) (h1:P.underlying f1.type=some .bool) (h:DataW.trod (λ_=>()) P w 0 (λ_=>true) false fuel t cs.toList=some (.agg [.lit (.bool x),.lit (.bool y)],p)):cs = #[.bool x,.bool y]:=by
 obtain⟨m,n,C,i,b,d,a⟩:=DataW.trod_struct ht h;obtain⟨l⟩:=cs;have e:l.length=2:=by rw[←hC];simpa using b
 match l,e with
 | [c0,c1],_=>
  have g:=a 0 f0 rfl;have j:=a 1 f1 rfl;obtain⟨r,s⟩:=hone_of hone 0 f0 rfl;obtain⟨o1,z⟩:=hone_of hone 1 f1 rfl;rw[r,s]at g;rw[o1,z]at j
  match m,d with
  | [y0,y1],_=>
   obtain⟨B,rfl,u⟩:=GW h0 (c:=c0) (y:=y0) (by simpa using g);obtain⟨D,rfl,A⟩:=GW h1 (c:=c1) (y:=y1) (by simpa using j);subst u;subst A;simp at i;obtain⟨⟨rfl,rfl⟩,_⟩:=i;rfl
theorem GL {w:World}{a:Addr}{v:Value}(h:w.cell? a=some v):cell w.heap a=some v:=h
section
variable {H:Type}{enc:TypeId×Value->H}{P:Program}{w:World}
theorem TE {x:Int}(h:(Lit.int .i64 x).wf=true):lP x:=by
 unfold lP;simp[Lit.wf,IntKind.min,IntKind.max,IntKind.bits,IntKind.signed]at h;omega
theorem SL {t:TypeId}{f0 f1 f2 f3 f4 f5 f6 f7:Field}{fuel:Nat}{cs:List Value}{y:DataW H×List MemPlace}
 (ht:P.underlying t=some (.struct #[f0,f1,f2,f3,f4,f5,f6,f7])) (hone:oneCellFields P #[f0,f1,f2,f3,f4,f5,f6,f7]=true) (hC:P.cellsOf t=8)
 (h0:P.underlying f0.type=some (.int .i64)) (h1:P.underlying f1.type=some (.int .i64)) (h2:P.underlying f2.type=some (.int .i64)) (h3:P.underlying f3.type=some (.int .i64)) (h4:P.underlying f4.type=some (.int .i64)) (h5:P.underlying f5.type=some (.int .i64)) (h6:P.underlying f6.type=some (.int .i64)) (h7:P.underlying f7.type=some .string)
 (h:DataW.trod enc P w 0 (λ_=>true) true fuel t cs=some y):∃d:fL,cs=qB d/\lD d:=by
 obtain⟨u,n,W,V,e,g,i⟩:=DataW.trod_struct ht h;have r:cs.length=8:=by rw[←hC];exact e
 match cs,r with
 | [c0,c1,c2,c3,c4,c5,c6,c7],_=>
  have one:∀(j:Nat) (f:Field) (c:Value),(#[f0,f1,f2,f3,f4,f5,f6,f7]:Array Field)[j]?=some f->[c0,c1,c2,c3,c4,c5,c6,c7][j]?=some c->∃z,DataW.trod enc P w 0 (λ_=>true) true n f.type [c]=some z:=by
   intro j f c hj hc;obtain⟨N,U⟩:=hone_of hone j f hj;have h3:=i j f hj;rw[N,U]at h3;have a:=(cS.1 hc).1;have F:([c0,c1,c2,c3,c4,c5,c6,c7].drop j).take 1=[c]:=by
    rw[qL a,sL,tz,(cS.1 hc).2]
   rw[F]at h3;have p:u[j]?=some (u[j]'(by rw[g];simp at a ⊢;omega)):=cL _;rw[p]at h3;exact⟨_,h3⟩
  have int:∀(j:Nat) (f:Field) (c:Value),(#[f0,f1,f2,f3,f4,f5,f6,f7]:Array Field)[j]?=some f->[c0,c1,c2,c3,c4,c5,c6,c7][j]?=some c->P.underlying f.type=some (.int .i64)->∃x:Int,c=.int .i64 x/\lP x:=by
   intro j f c hj hc hu;obtain⟨z,m⟩:=one j f c hj hc;obtain⟨x,b,_,J⟩:=DataW.trod_int hu m;simp only[List.cons.injEq,and_true]at b;exact⟨x,b,TE J⟩
  obtain⟨D,rfl,_⟩:=int 0 f0 c0 rfl rfl h0;obtain⟨K,rfl,_⟩:=int 1 f1 c1 rfl rfl h1;obtain⟨S,rfl,Q⟩:=int 2 f2 c2 rfl rfl h2;obtain⟨G,rfl,C⟩:=int 3 f3 c3 rfl rfl h3;obtain⟨E,rfl,_⟩:=int 4 f4 c4 rfl rfl h4;obtain⟨R,rfl,L⟩:=int 5 f5 c5 rfl rfl h5;obtain⟨M,rfl,B⟩:=int 6 f6 c6 rfl rfl h6;obtain⟨z,m⟩:=one 7 f7 c7 rfl rfl;obtain⟨s,A,_⟩:=DataW.trod_string h7 m;simp only[List.cons.injEq,and_true]at A;subst A;exact⟨⟨D,K,S,G,E,R,M,s⟩,rfl,Q,C,L,B⟩
theorem T4 {t e:TypeId}{f0 f1 f2 f3 f4 f5 f6 f7:Field}{a:Option Addr}{len cap:Nat}{d:DataW H}{ps:List MemPlace}
 (htl:P.underlying t=some (.slice e)) (ht:P.underlying e=some (.struct #[f0,f1,f2,f3,f4,f5,f6,f7])) (hone:oneCellFields P #[f0,f1,f2,f3,f4,f5,f6,f7]=true) (hC:P.cellsOf e=8)
 (h0:P.underlying f0.type=some (.int .i64)) (h1:P.underlying f1.type=some (.int .i64)) (h2:P.underlying f2.type=some (.int .i64)) (h3:P.underlying f3.type=some (.int .i64)) (h4:P.underlying f4.type=some (.int .i64)) (h5:P.underlying f5.type=some (.int .i64)) (h6:P.underlying f6.type=some (.int .i64)) (h7:P.underlying f7.type=some .string)
 (h:DataW.Trod enc P w 0 (λ_=>true) true t (.slice a len cap) d ps):∃ds,j2 w.heap ⟨a,len,cap⟩ ds:=by
 obtain⟨Q,R⟩:=h;rcases open_slice htl R with⟨r,_⟩|⟨ad,len',cap',m,n,D,Pl,r,_,hl,hm,hmm,A,y⟩
 ·simp[Value.cells]at r;obtain⟨rfl,rfl,rfl⟩:=r;exact⟨[],rfl,λi x A=>by simp at A,by simp,by simp⟩
 ·simp[Value.cells]at r;obtain⟨rfl,rfl,rfl⟩:=r;have S:m=cap:=by simpa using hmm
  have key:∀i,i<len->∃u:fL,(∀j v,(qB u)[j]?=some v->cell w.heap ((ad.add (i*8)).add j)=some v)/\lD u:=by
   intro i p;obtain⟨U,E,M⟩:=y i O;rw[hC]at E;obtain⟨x,r,G⟩:=SL ht hone hC h0 h1 h2 h3 h4 h5 h6 h7 M;obtain⟨_,W,L⟩:=World.cells?_some E;refine⟨x,λj v F=>?_,G⟩;have V:=(cS.1 F).1;have:=L j (by simpa[qB]using V);rw[r]at this;rw[F]at this;exact this
  let g:Nat->fL:=λi=>if y:i<len then(key i y).choose else⟨0,0,0,0,0,0,0,ByteArray.empty⟩
  have N:∀i,(y:i<len)->g i=(key i y).choose:=λi y=>by simp only[g,y,dif_pos]
  refine⟨(List.range len).map g,by simp,λi x A=>?_,λx A=>?_,?_⟩
  ·have p:i<len:=by
    have:=(cS.1 A).1;simpa using this
   have B:g i=x:=by simpa[p]using A
   rw[N i p]at B;have C:=(key i p).choose_spec;rw[B]at C;obtain⟨E,_⟩:=C;have K:=(key 0 O).choose_spec.1;have J:=K 0 _ rfl;have z:=Ma J;simp only[vC,Addr.add_zero']at z;obtain⟨b,o,s⟩:=ad;have C:s=none:=z.2;subst C;refine⟨b,o,rfl,z.1,λj v F=>?_⟩;have:=E j v F;rw[add_lit,add_lit]at this;exact this
  ·obtain⟨i,y,rfl⟩:=zD.1 A;have p:=zW.1 y;rw[N i p];exact(key i p).choose_spec.2
  ·have:maxLen=9223372036854775807:=rfl;simp;omega
theorem WgZ {b0:Nat}{t:TypeId}{f0 f1 g0 g1 g2 g3 g4:Field}{v:Value}{d:DataW H}{ps:List MemPlace}
 (ht:P.underlying t=some (.struct #[f0,f1])) (hC:P.cellsOf t=6) (ho:f0.offset=0/\P.cellsOf f0.type=1/\f1.offset=1/\P.cellsOf f1.type=5)
 (h0:P.underlying f0.type=some (.int .i64)) (h1:P.underlying f1.type=some (.struct #[g0,g1,g2,g3,g4])) (hone:oneCellFields P #[g0,g1,g2,g3,g4]=true)
 (k0:P.underlying g0.type=some (.int .i64)) (k1:P.underlying g1.type=some (.int .i64)) (k2:P.underlying g2.type=some (.int .i64)) (k3:P.underlying g3.type=some (.int .i64)) (k4:P.underlying g4.type=some (.int .i64))
 (hval:Value.okWide P w .any b0 t v) (h:DataW.Trod enc P w 0 (λ_=>true) true t v d ps):∃(x0 x1 x2 x3 x4 x5:Int),v=.agg #[.int .i64 x0,.int .i64 x1,.int .i64 x2,.int .i64 x3,.int .i64 x4,.int .i64 x5]:=by
 unfold Value.okWide at hval;rw[ht]at hval;obtain⟨L,rfl,E,_⟩:=hval;obtain⟨e,i⟩:=h;obtain⟨l⟩:=L;have u:l.length=6:=by rw[←hC];simpa using E
 obtain⟨r,m,A,p⟩:=ho
 match l,u with
 | [c0,c1,c2,c3,c4,c5],_=>
  have i:DataW.trod enc P w 0 (λ_=>true) true e t [c0,c1,c2,c3,c4,c5]=some (d,ps):=i;obtain⟨y0,y1,n,_,_,G,K⟩:=trod_struct2 ht i;rw[r,m]at G;rw[A,p]at K;have s:DataW.trod enc P w 0 (λ_=>true) true n f0.type [c0]=some y0:=G;have D:DataW.trod enc P w 0 (λ_=>true) true n f1.type [c1,c2,c3,c4,c5]=some y1:=K;obtain⟨x0,b,_,_⟩:=DataW.trod_int h0 s;simp only[List.cons.injEq,and_true]at b;subst b;obtain⟨F,n,R,Q,J,z,B⟩:=DataW.trod_struct h1 D;have int:∀(j:Nat) (f:Field) (c:Value),(#[g0,g1,g2,g3,g4]:Array Field)[j]?=some f->[c1,c2,c3,c4,c5][j]?=some c->P.underlying f.type=some (.int .i64)->∃x:Int,c=.int .i64 x:=by
   intro j f c hj hc hu;obtain⟨ho,M⟩:=hone_of hone j f hj;have g:=B j f hj;rw[ho,M]at g;have a:=(cS.1 hc).1;have N:([c1,c2,c3,c4,c5].drop j).take 1=[c]:=by
    rw[qL a,sL,tz,(cS.1 hc).2]
   rw[N]at g;have y:F[j]?=some (F[j]'(by rw[z];simp at a ⊢;omega)):=cL _;rw[y]at g;obtain⟨x,C,_,_⟩:=DataW.trod_int hu g;exact⟨x,by simpa using C⟩
  obtain⟨x1,rfl⟩:=int 0 g0 c1 rfl rfl k0;obtain⟨x2,rfl⟩:=int 1 g1 c2 rfl rfl k1;obtain⟨x3,rfl⟩:=int 2 g2 c3 rfl rfl k2;obtain⟨x4,rfl⟩:=int 3 g3 c4 rfl rfl k3;obtain⟨x5,rfl⟩:=int 4 g4 c5 rfl rfl k4;exact⟨x0,x1,x2,x3,x4,x5,rfl⟩
end
end Go.Ar