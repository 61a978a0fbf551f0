/- Texts joined. -/
import Derived.Shelf.SlSortCmp.NoneTotal
import Derived.Ground.SlsfProg
import Derived.Test.YtehhfakcnbnipaaGreatDoorProg
import Derived.Test.YtehhfakcnbnipaaGreatDoorRows
import Derived.ChangeVars
import Derived.JoinedOf
import Derived.RowKit
import Derived.WalkKit
import Derived.ProofKit
import Derived.OpenShut
import Derived.ChangeOld
import Derived.Carry
import Derived.Test.YtehhfakcnbnipaaGreatDoorI6
set_option linter.unusedVariables false
set_option linter.unusedSimpArgs false
namespace Go.Ar
open Go.Vc (mget mset mdel)
variable {H:Hw}{held:List Pc}{s0:Sp}{t k:Nat}{g:Th}{A:AR}{c:Cls}
theorem Z1 {p:Ph}{H1:Hw}{g1:Th}{nx:Option Ph}{a e:Int}(ht:t<H.ths.length)(hs:Wt H t p=({H1 with ths:=H.ths.set t g1},nx,a,e)):QC H t p = {H1 with ths:=H.ths.set t {g1 with ph:=nx}}:=by
 unfold QC;rw[hs];show Hw.setT _ t _=_;rw[Zv (g:=g1) (by simp[ht])];simp only[zBK]
structure StI (H:Hw) (t:Nat) (p:Ph):Prop where
 ok:Wbi H t p
 hi:∃held s0,HI (QC H t p) held s0
 ks:KS H.sp (QC H t p).sp
theorem StI.mk' {p:Ph}(hg:H.ths[t]?=some g)(hl:g.hands.length<=41)(h1:Wf3 H t p){H':Hw}{held':List Pc}{s0':Sp}(e:QC H t p=H')(h2:HI H' held' s0')(h3:KS H.sp H'.sp):StI H t p:=
 ⟨⟨h1,λg' hg'=>by rw[hg]at hg';cases hg';omega⟩,⟨held',s0',by rw[e];exact h2⟩,by rw[e];exact h3⟩
def Rq (tb:List Cls)(g:Th):Ph->Int->Int->Prop
 | .take k,cl,sz=>cl=k/\∃c,tb[k]?=some c/\sz=c.size
 | .transfer k _,cl,sz=>cl=k/\∃c,tb[k]?=some c/\sz=c.size
 | .central k _,cl,sz=>cl=k/\∃c,tb[k]?=some c/\sz=c.size
 | .grow k _,cl,sz=>cl=k/\∃c,tb[k]?=some c/\sz=c.size
 | .fill,cl,sz=>∃k xs r c,g.hands=(k,xs)::r/\cl=k/\tb[k]?=some c/\sz=c.size
 | .large m,cl,sz=>cl = -1/\sz=((m*256:Nat):Int)
 | _,_,_=>False
def WaK (H:Hw)(t:Nat):Ph->Nat
 | .take _=>5
 | .transfer _ _=>4
 | .central k w=>if Yl (H.arn t) (k:Int) (w:Int)=[]then 3 else 1
 | .grow _ _=>2
 | _=>0
def EfM (H:Hw)(t:Nat)(p:Ph)(cl sz:Int):Prop:=
 (∃p' g',(Wt H t p).2.1=some p'/\(QC H t p).live=H.live/\(QC H t p).ths[t]?=some g'/\Rq H.tb g' p' cl sz/\WaK (QC H t p) t p'<WaK H t p) ∨
 ((Wt H t p).2.1=none/\(Wt H t p).2.2.2≠0/\(Wt H t p).2.2.1=0/\(QC H t p).live=H.live) ∨
 ((Wt H t p).2.1=none/\(Wt H t p).2.2.2=0/\mget H.live (Wt H t p).2.2.1=none/\(QC H t p).live=mset H.live (Wt H t p).2.2.1 ((Wt H t p).2.2.1,sz,cl,Yk (QC H t p).ars (Wt H t p).2.2.1))
theorem HI.mem (h:HI H held s0)(hg:H.ths[t]?=some g):g∈H.ths:=zD hg
theorem HI.own_lt (h:HI H held s0)(t:Nat):H.own t<H.ars.length:=zDE _ (by have:=h.a1;omega)
theorem HI.arn (h:HI H held s0)(t:Nat):H.ars[H.own t]?=some (H.arn t):=by
 have hl:=gGe (h.own_lt t);rw[Wht hl];exact hl
theorem HI.tb40 (h:HI H held s0):H.tb.length<=40:=by
 have hA:=h.arn 0;have:=(h.wi.ga _ _ hA).tb;rw[h.wi.tb _ _ hA]at this;exact this
theorem HI.cls (h:HI H held s0)(hk:k<H.tb.length):∃c,H.tb[k]?=some c/\c.ok:=⟨H.tb[k],gGe hk,h.ok _ (zk hk)⟩
theorem ThI.li {m:Nat}(h:ThI m g)(hk:k<m):∃l,g.ls[k]?=some l/\g.li k=l/\LiOk l/\l.os.length<=128:=by
 have hl:=gGe (l:=g.ls) (i:=k) (by rw[h.ll];exact hk);have:=h.lo _ (zk (by rw[h.ll];exact hk));exact⟨_,hl,Wjj hl,this.1,this.2⟩
theorem ThI.setL {m:Nat}(h:ThI m g){l':Li}(h1:LiOk l')(h2:l'.os.length<=128):(g.ls.set k l').length=m/\∀l∈g.ls.set k l',LiOk l/\l.os.length<=128:=by
 refine⟨by rw[zBM];exact h.ll,λl hl=>?_⟩;rcases zEL hl with hl|rfl
 ·exact h.lo l hl
 ·exact⟨h1,h2⟩
theorem WnZ {ls:List Li}{l':Li}{hs:List Bt}{ph:Option Ph}(hk:k<ls.length):(⟨ls.set k l',hs,ph⟩:Th).li k=l':=by
 unfold Th.li;rw[Wfo l' k hk,zB rfl]
theorem HI.lvOf (h:HI H held s0){y:Int}(hu:Um held (k:Int) y)(hc:H.tb[k]?=some c):Lv held (y,(y,(c.size:Int),(k:Int),Yk H.ars y)):=by
 obtain⟨p,hp,h1,h2,rfl⟩:=hu;obtain⟨A,hA,_⟩:=h.wi.hf p hp;obtain⟨c',hc',h3,_⟩:=h.wi.cls hp h2 hA;rw[h.wi.tb _ _ hA]at hc';have hc'':H.tb[k]?=some c':=hc';rw[hc]at hc'';cases hc'';exact⟨rfl,p,hp,h1,h2,rfl,by rw[h3],by rw[h.owner0 hp]⟩
theorem Gy {ls:List Li}{l:Li}(hl:ls[k]?=some l)(l':Li)(k' x:Int):cnL (ls.set k l') k' x+(if(k:Int)=k' then l.os.count x else 0)=cnL ls k' x+(if(k:Int)=k' then l'.os.count x else 0):=by
 have:=WlG l' (gSi.1 hl).1 k' x;rw[zL,hl]at this;exact this
theorem WlU {ls:List Li}{l:Li}(hl:ls[k]?=some l)(x:Int):cnL ls (k:Int) x=l.os.count x:=by
 rw[WaM,zL,hl];rfl
theorem Wme (h:HI H held s0)(hg:H.ths[t]?=some g)(hph:g.ph=some (.take k)){cl sz:Int}(hr:Rq H.tb g (.take k) cl sz):StI H t (.take k)/\EfM H t (.take k) cl sz:=by
 have ht:=(gSi.1 hg).1;have hth:=h.th g (h.mem hg);obtain⟨hh,hk⟩:g.hands=[]/\k<H.tb.length:=by have:=hth.ph;unfold PhI at this;rw[hph]at this;exact this
 obtain⟨rfl,c,hc,rfl⟩:=hr;have hok:=h.ok c (zD hc);obtain⟨l,hl,hli,hlo,hlm⟩:=hth.li hk;have hlo':=We8 hok hlo;have htg:=Ga hg;cases hT:Ka c l with
 | mk o l'=>
  rw[hT]at hlo';cases o with
  | some y=>
   have hs:Wt H t (.take k)=({{H with live:=mset H.live y (y,(c.size:Int),(k:Int),Yk H.ars y)}with ths:=H.ths.set t {g with ls:=g.ls.set k l'}},none,y,0):=by
    simp only[Wt,htg,V9 hc,hli,hT,VC,Zv hg,Th.setL]
   have e:=Z1 ht hs;have hcy:1<=cnT g (k:Int) y:=by
    have:=WeA hT y;rw[zGR]at this;unfold cnT;rw[WlU hl];omega
   have hu:=h.um_t (h.mem hg) hcy;have hm:=h.not_live (h.mem hg) hcy;have hlen:l'.os.length<=128:=by
    have:l'.os.length<=l.os.length:=by
     unfold Ka at hT;split at hT
     ·cases hT
     ·cases hT;simp
    omega
   obtain⟨ll,lo⟩:=hth.setL (k:=k) hlo' hlen;have hi:=h.updT hg (g':={g with ls:=g.ls.set k l',ph:=none}) (live':=mset H.live y (y,(c.size:Int),(k:Int),Yk H.ars y)) (λk' x=>by
    rw[Wcc _ hm];have h1:=Gy hl l' k' x;have h2:=WeA hT x;unfold cnT;rw[hph];simp only[cnP];by_cases hkk:(k:Int)=k'
    ·simp only[hkk,zO]at h1 ⊢;omega
    ·simp only[hkk,zp]at h1 ⊢;omega)
    (Go.Vc.mset_keys h.lk) (λe' he=>by
     rcases(VY hm).1 he with he|rfl
     ·exact .inl he
     ·exact .inr (h.lvOf hu hc))
    (λs a hp=>by cases hp) ⟨ll,lo,hth.hb,hth.hl,by unfold PhI;exact hh⟩
   refine⟨StI.mk' hg hth.hl ⟨hk,λy' l'' hy=>?_⟩ e hi (KS.refl _),.inr (.inr ?_)⟩
   ·rw[htg,hli,V9 hc,hT]at hy;cases hy;exact(h.i63 hu).1
   ·rw[e,hs];exact⟨rfl,rfl,hm,rfl⟩
  | none=>
   have hs:Wt H t (.take k)=({H with ths:=H.ths.set t {g with ls:=g.ls.set k l'}},some (.transfer k (Waf c l')),0,0):=by
    simp only[Wt,htg,V9 hc,hli,hT,Zv hg,Th.setL]
   have e:=Z1 ht hs;obtain⟨o1,o2⟩:=Wis hT;obtain⟨ll,lo⟩:=hth.setL (k:=k) hlo' (by rw[o2];simp);have hlim:=hlo'.lim1;have hw:1<=Waf c l'/\Waf c l'<=32:=by
    unfold Cls.ok at hok;unfold Waf;simp only at hlim;omega
   have hi:=h.updT hg (g':={g with ls:=g.ls.set k l',ph:=some (.transfer k (Waf c l'))}) (live':=H.live) (λk' x=>by
    have h1:=Gy hl l' k' x;rw[o1,o2]at h1;unfold cnT;rw[hph];simp only[cnP];omega) h.lk (λe' he=>.inl he) (λs a hp=>by cases hp) ⟨ll,lo,hth.hb,hth.hl,by
     unfold PhI;exact⟨hh,hk,by rw[WnZ (by rw[hth.ll];exact hk)];exact o2,hw⟩⟩
   refine⟨StI.mk' hg hth.hl ⟨hk,λy' l'' hy=>?_⟩ e hi (KS.refl _),.inl ?_⟩
   ·rw[htg,hli,V9 hc,hT]at hy;cases hy
   ·rw[e,hs];exact⟨_,_,rfl,rfl,zK ht,⟨rfl,c,hc,rfl⟩,by simp[WaK]⟩
theorem Gi (h:GA A)(h0:Z5 A (k:Int)=0)(hc:A.tb[k]?=some c):∃x xs,YC A (k:Int)=x::xs/\xs.length+1=c.batch:=by
 have hv:YC A (k:Int)=(match A.tra[k]? with
  | some t=>t.bs.getLast?.getD []
  | none=>[]):=by unfold YC;rw[zB h0,iTn];rfl
 unfold Z5 at h0;rw[iTn]at h0;split at h0
 ·split at h0
  ·rename_i t ht;split at h0
   ·cases h0
   ·rename_i hb;rw[ht]at hv;simp only at hv;have hl:t.bs.getLast?=some (t.bs.getLast hb):=List.getLast?_eq_some_getLast hb;rw[hl]at hv;simp only[zBH]at hv;have:=h.trb k c t hc ht _ (List.getLast_mem hb);rw[←hv]at this;have hok:=h.cen;cases hx:YC A (k:Int)with
    | nil=>
     rw[hx]at this;have hkl:k<A.tb.length:=(gSi.1 hc).1;obtain⟨c',ss,_,hcl,_⟩:=h.cl hkl;have hcc:c'=c:=Option.some.inj (hcl.1.symm.trans hc);have:=(h.cen k c' ss hcl).ok;unfold Cls.ok at this;simp at *;subst hcc;omega
    | cons x xs=>exact⟨x,xs,rfl,by rw[hx]at this;simpa using this⟩
  ·cases h0
 ·cases h0
theorem Weh (h:HI H held s0)(hg:H.ths[t]?=some g){w:Nat}(hph:g.ph=some (.transfer k w)){cl sz:Int}(hr:Rq H.tb g (.transfer k w) cl sz):StI H t (.transfer k w)/\EfM H t (.transfer k w) cl sz:=by
 have ht:=(gSi.1 hg).1;have hth:=h.th g (h.mem hg);obtain⟨hh,hk,hos,hw⟩:g.hands=[]/\k<H.tb.length/\(g.li k).os=[]/\1<=w/\w<=32:=by have:=hth.ph;unfold PhI at this;rw[hph]at this;exact this
 obtain⟨rfl,c,hc,rfl⟩:=hr;have hok:=h.ok c (zD hc);have hok':=hok;unfold Cls.ok at hok';have hA:=h.arn t;have ga:=h.wi.ga _ _ hA;have hcA:(H.arn t).tb[k]?=some c:=by rw[h.wi.tb _ _ hA];exact hc
 have hP:Wf3 H t (.transfer k w):=⟨hk,λh0=>by
  obtain⟨x,xs,e,_⟩:=Gi ga h0 hcA;rw[e];simp⟩
 by_cases hcase:w=c.batch/\Z5 (H.arn t) (k:Int)=0
 ·obtain⟨rfl,h0⟩:=hcase;obtain⟨x,xs,hv,hxl⟩:=Gi ga h0 hcA;have hs:Wt H t (.transfer k c.batch)=({H.setA (H.own t) (ZB (H.arn t) (k:Int))with ths:=H.ths.set t {g with hands:=[(k,x::xs)]}},some .fill,0,0):=by
   simp only[Wt,V9 hc,zO,h0,QM,hv];rw[Zv (g:=g) (by exact hg),hh];rfl
  have e:=Z1 (H1:=H.setA (H.own t) (ZB (H.arn t) (k:Int))) ht hs;obtain⟨u1,u2,u3,u4⟩:=WmQ h.wi hA (j:=k);have wi:=h.wi.fromT hA (k:Int);have hi:=h.upd hg (g':={g with hands:=[(k,x::xs)],ph:=some .fill}) (live':=H.live) wi h.sim rfl (by simp[Wd.put]) u4 (λk' y=>by
   rw[Wd0 u2 (λy hy=>u1 y hy _) u3,hv];unfold cnT;rw[hph,hh];simp only[cnP,Kz,VB];omega) h.lk (λe' he=>.inl he) (λs a hp=>by cases hp) ⟨hth.ll,hth.lo,λb hb=>by
    simp only[zZ]at hb;subst hb;exact⟨hk,by simp,by simp;omega⟩,by simp,by
    unfold PhI;exact⟨k,x,xs,rfl,hk,hos,by omega⟩⟩
  refine⟨StI.mk' hg hth.hl hP e hi (KS.refl _),.inl ?_⟩;rw[e,hs];exact⟨_,_,rfl,rfl,zK ht,⟨k,x::xs,[],c,rfl,rfl,hc,rfl⟩,by simp[WaK]⟩
 ·have hs:Wt H t (.transfer k w)=({H with ths:=H.ths.set t g},some (.central k w),0,0):=by
   have:H.ths.set t g=H.ths:=Qh hg;rw[this];simp only[Wt,V9 hc];split
   ·split
    ·exact(hcase ⟨by assumption,by assumption⟩).elim
    ·rfl
   ·rfl
  have e:=Z1 ht hs;have hi:=h.updT hg (g':={g with ph:=some (.central k w)}) (live':=H.live) (λk' x=>by
   unfold cnT;rw[hph];simp only[cnP]) h.lk (λe' he=>.inl he) (λs a hp=>by cases hp) ⟨hth.ll,hth.lo,hth.hb,hth.hl,by
    unfold PhI;exact⟨hh,hk,hos,hw⟩⟩
  refine⟨StI.mk' hg hth.hl hP e hi (KS.refl _),.inl ?_⟩;rw[e,hs];refine⟨_,_,rfl,rfl,zK ht,⟨rfl,c,hc,rfl⟩,?_⟩;simp only[WaK];split<;>omega
theorem Wcv (h:GA A)(j w:Nat):(Yl A (j:Int) (w:Int)).length<=w:=by
 unfold Yl;split
 ·rename_i h0;have hck:A.ck (j:Int)=true:=by
   unfold QA at h0;split at h0
   ·assumption
   ·cases h0
  obtain⟨i,hi,hj⟩:=U9.1 hck;obtain⟨c,ss,t,hk,ht⟩:=h.cl hj;have:i=j:=by omega
  subst this;unfold Vs;rw[iTn,iTn,hk.1,hk.2];exact(HT w (h.cen i c ss hk)).2.2.1
 ·simp
theorem Wkw (H:Hw)(t:Nat)(B:AR)(h:H.own t<H.ars.length)(sp:Sp)(ths:List Th):Hw.arn {H.setA (H.own t) B with sp:=sp,ths:=ths} t=B:=by
 refine Wht ?_;have:Hw.own {H.setA (H.own t) B with sp:=sp,ths:=ths} t=H.own t:=by unfold Hw.own Hw.setA;simp
 rw[this];simp[Hw.setA,h]
theorem WfY (h:HI H held s0)(hg:H.ths[t]?=some g){w:Nat}(hph:g.ph=some (.central k w)){cl sz:Int}(hr:Rq H.tb g (.central k w) cl sz):StI H t (.central k w)/\EfM H t (.central k w) cl sz:=by
 have ht:=(gSi.1 hg).1;have hth:=h.th g (h.mem hg);obtain⟨hh,hk,hos,hw⟩:g.hands=[]/\k<H.tb.length/\(g.li k).os=[]/\1<=w/\w<=32:=by have:=hth.ph;unfold PhI at this;rw[hph]at this;exact this
 obtain⟨rfl,c,hc,rfl⟩:=hr;have hA:=h.arn t;have ga:=h.wi.ga _ _ hA;have wi:=h.wi.from hA (k:Int) (w:Int);have hvl:=Wcv ga k w;have hnd:=(Wbv ga (k:Int) (w:Int)).2.2.1;cases hv:Yl (H.arn t) (k:Int) (w:Int)with
 | nil=>
  have hs:Wt H t (.central k w)=({H.setA (H.own t) (YE (H.arn t) (k:Int) (w:Int))with ths:=H.ths.set t g},some (.grow k w),0,0):=by
   have:H.ths.set t g=H.ths:=Qh hg;rw[this];simp only[Wt,hv,zO,Hw.setA]
  have e:=Z1 (H1:=H.setA (H.own t) (YE (H.arn t) (k:Int) (w:Int))) ht hs;rw[hv]at wi;simp only[zDI,zAC]at wi;have hi:=h.upd hg (g':={g with ph:=some (.grow k w)}) (live':=H.live) wi h.sim rfl (by simp[Wd.put]) (λp hp _=>.inl hp) (λk' y=>by
   unfold cnT;rw[hph];simp only[cnP]) h.lk (λe' he=>.inl he) (λs a hp=>by cases hp) ⟨hth.ll,hth.lo,hth.hb,hth.hl,by
    unfold PhI;exact⟨hh,hk,hos,hw⟩⟩
  refine⟨StI.mk' hg hth.hl trivial e hi (KS.refl _),.inl ?_⟩;rw[e,hs];exact⟨_,_,rfl,rfl,zK ht,⟨rfl,c,hc,rfl⟩,by simp[WaK,hv]⟩
 | cons v vs=>
  have hs:Wt H t (.central k w)=({H.setA (H.own t) (YE (H.arn t) (k:Int) (w:Int))with ths:=H.ths.set t {g with hands:=[(k,(v::vs).map λ(x:Nat)=>(x:Int))]}},some .fill,0,0):=by
   simp only[Wt,hv,QM];rw[zA (by simp),Zv (g:=g) (by exact hg),hh];rfl
  have e:=Z1 (H1:=H.setA (H.own t) (YE (H.arn t) (k:Int) (w:Int))) ht hs;rw[hv]at wi hvl hnd;have hnd':((v::vs).map λ(x:Nat)=>(x:Int)).Nodup:=List.Pairwise.map (R:=(· ≠ ·)) _ (λa b hab e=>hab (by omega)) hnd;have app:=Wk4 (held:=held) (new:=(v::vs).map λy=>(⟨H.own t,(k:Int),y,szOf H.tb (k:Int),false⟩:Pc)) (cl:=(k:Int)) (l:=(v::vs).map λ(x:Nat)=>(x:Int)) (λp hp=>by
   obtain⟨y,hy,rfl⟩:=zE.1 hp;exact⟨rfl,rfl,zE.2 ⟨y,hy,rfl⟩⟩) λx hx=>by
   obtain⟨y,hy,rfl⟩:=zE.1 hx;exact⟨_,zE.2 ⟨y,hy,rfl⟩,rfl⟩
  have new:=Wiu wi;have hi:=h.upd hg (g':={g with hands:=[(k,(v::vs).map λ(x:Nat)=>(x:Int))],ph:=some .fill}) (live':=H.live) wi h.sim rfl (by simp[Wd.put]) (WgN wi) (λk' y=>by
   rw[Wd0 hnd' (λy hy=>by
    obtain⟨z,hz,rfl⟩:=zE.1 hy;exact new ⟨H.own t,(k:Int),z,szOf H.tb (k:Int),false⟩ (zE.2 ⟨z,hz,rfl⟩) _) app]
   unfold cnT;rw[hph,hh];simp only[cnP,Kz,VB];omega) h.lk (λe' he=>.inl he) (λs a hp=>by cases hp) ⟨hth.ll,hth.lo,λb hb=>by
    simp only[zZ]at hb;subst hb;exact⟨hk,by simp,by simp at hvl ⊢;omega⟩,by simp,by
    unfold PhI;exact⟨k,(v:Int),vs.map λ(x:Nat)=>(x:Int),rfl,hk,hos,by simp at hvl ⊢;omega⟩⟩
  refine⟨StI.mk' hg hth.hl trivial e hi (KS.refl _),.inl ?_⟩;rw[e,hs];refine⟨_,_,rfl,rfl,zK ht,⟨k,_,[],c,rfl,rfl,hc,rfl⟩,?_⟩;simp[WaK,hv]
theorem Wlv (h:HI H held s0)(hg:H.ths[t]?=some g){w:Nat}(hph:g.ph=some (.grow k w)){cl sz:Int}(hr:Rq H.tb g (.grow k w) cl sz):StI H t (.grow k w)/\EfM H t (.grow k w) cl sz:=by
 have ht:=(gSi.1 hg).1;have hth:=h.th g (h.mem hg);obtain⟨hh,hk,hos,hw⟩:g.hands=[]/\k<H.tb.length/\(g.li k).os=[]/\1<=w/\w<=32:=by have:=hth.ph;unfold PhI at this;rw[hph]at this;exact this
 obtain⟨rfl,c,hc,rfl⟩:=hr;have hA:=h.arn t;have ga:=h.wi.ga _ _ hA;obtain⟨e1,e2,e3,e4⟩:=h.sim.growS (H.arn t) (k:Int);have wi:=h.wi.grow hA (k:Int);by_cases h0:KH (H.arn t) H.sp (k:Int)=0
 ·have hs:Wt H t (.grow k w)=({{H.setA (H.own t) (growS (H.arn t) H.sp (k:Int)).1 with sp:=(growS (H.arn t) H.sp (k:Int)).2}with ths:=H.ths.set t g},some (.central k w),0,0):=by
   have:H.ths.set t g=H.ths:=Qh hg;rw[this];simp only[Wt,h0,zO,Hw.setA]
  have e:=Z1 (H1:={H.setA (H.own t) (growS (H.arn t) H.sp (k:Int)).1 with sp:=(growS (H.arn t) H.sp (k:Int)).2}) ht hs;have hroom:=WgW ga (h.wi.ow _ _ hA) (j:=k) (by rw[←e2];exact h0) hw.1;rw[show(Wd.mk H.tb s0 H.ars held).sp=s0 from rfl,←e1]at hroom;rw[show(Wd.mk H.tb s0 H.ars held).sp=s0 from rfl,←e1]at wi;have hi:=h.upd hg (g':={g with ph:=some (.central k w)}) (live':=H.live) wi e3 e4.l (by simp[Wd.put]) (λp hp _=>.inl hp) (λk' y=>by
   unfold cnT;rw[hph];simp only[cnP]) h.lk (λe' he=>.inl he) (λs a hp=>by cases hp) ⟨hth.ll,hth.lo,hth.hb,hth.hl,by
    unfold PhI;exact⟨hh,hk,hos,hw⟩⟩
  refine⟨StI.mk' hg hth.hl trivial e hi e4,.inl ?_⟩;rw[e,hs];refine⟨_,_,rfl,rfl,zK ht,⟨rfl,c,hc,rfl⟩,?_⟩;have:=Wkw H t (growS (H.arn t) H.sp (k:Int)).1 (h.own_lt t) (growS (H.arn t) H.sp (k:Int)).2 (H.ths.set t {g with ph:=some (.central k w)});simp only[WaK];rw[this,zA hroom];omega
 ·have hs:Wt H t (.grow k w)=({{H.setA (H.own t) (growS (H.arn t) H.sp (k:Int)).1 with sp:=(growS (H.arn t) H.sp (k:Int)).2}with ths:=H.ths.set t g},none,0,KH (H.arn t) H.sp (k:Int)):=by
   have:H.ths.set t g=H.ths:=Qh hg;rw[this];simp only[Wt,h0,zp,Hw.setA]
  have e:=Z1 (H1:={H.setA (H.own t) (growS (H.arn t) H.sp (k:Int)).1 with sp:=(growS (H.arn t) H.sp (k:Int)).2}) ht hs;rw[show(Wd.mk H.tb s0 H.ars held).sp=s0 from rfl,←e1]at wi;have hi:=h.upd hg (g':={g with ph:=none}) (live':=H.live) wi e3 e4.l (by simp[Wd.put]) (λp hp _=>.inl hp) (λk' y=>by
   unfold cnT;rw[hph];simp only[cnP]) h.lk (λe' he=>.inl he) (λs a hp=>by cases hp) ⟨hth.ll,hth.lo,hth.hb,hth.hl,by
    unfold PhI;exact hh⟩
  refine⟨StI.mk' hg hth.hl trivial e hi e4,.inr (.inl ?_)⟩;rw[e,hs];exact⟨rfl,h0,rfl,rfl⟩
theorem Wmj (h:HI H held s0)(hg:H.ths[t]?=some g)(hph:g.ph=some .fill){cl sz:Int}(hr:Rq H.tb g .fill cl sz):StI H t .fill/\EfM H t .fill cl sz:=by
 have ht:=(gSi.1 hg).1;have hth:=h.th g (h.mem hg);obtain⟨k,x,xs,hh,hk,hos,hxl⟩:∃k x xs,g.hands=[(k,x::xs)]/\k<H.tb.length/\(g.li k).os=[]/\xs.length<=128:=by have:=hth.ph;unfold PhI at this;rw[hph]at this;exact this
 obtain⟨k',ys,r,c,hh',rfl,hc,rfl⟩:=hr;rw[hh]at hh';obtain⟨hkk, -⟩:=List.cons.inj hh';obtain rfl:k=k':=congrArg Prod.fst hkk;obtain⟨l,hl,hli,hlo,hlm⟩:=hth.li hk;have htg:=Ga hg;rw[hli]at hos;have hadd:(addL xs.reverse l).os=xs.reverse:=by unfold addL;rw[hos,zA (by simp;omega)];simp
 have hs:Wt H t .fill=({{H with live:=mset H.live x (x,(c.size:Int),(k:Int),Yk H.ars x)}with ths:=H.ths.set t {ls:=g.ls.set k (addL xs.reverse l),hands:=[],ph:=g.ph}},none,x,0):=by
  simp only[Wt,htg,hh,V9 hc,VC,Zv hg,hli]
 have e:=Z1 ht hs;have hcx:1<=cnT g (k:Int) x:=by
  unfold cnT;rw[hh,Kz,zB rfl];have:1<=(x::xs).count x:=zGQ.2 (by simp);simp only;omega
 have hu:=h.um_t (h.mem hg) hcx;have hm:=h.not_live (h.mem hg) hcx;obtain⟨ll,lo⟩:=hth.setL (k:=k) (Wch (xs:=xs.reverse) hlo) (by rw[hadd];simp;omega);have hi:=h.updT hg (g':={ls:=g.ls.set k (addL xs.reverse l),hands:=[],ph:=none}) (live':=mset H.live x (x,(c.size:Int),(k:Int),Yk H.ars x)) (λk' y=>by
  rw[Wcc _ hm];have h1:=Gy hl (addL xs.reverse l) k' y;rw[hos,hadd,List.count_reverse,List.count_nil]at h1;have h2:(x::xs).count y=[x].count y+xs.count y:=zDO (l₁:=[x]) (l₂:=xs);unfold cnT;rw[hph,hh];simp only[cnP,Kz,VB];by_cases hkk:(k:Int)=k'
  ·simp only[hkk,zO]at h1 ⊢;omega
  ·simp only[hkk,zp]at h1 ⊢;omega)
  (Go.Vc.mset_keys h.lk) (λe' he=>by
   rcases(VY hm).1 he with he|rfl
   ·exact .inl he
   ·exact .inr (h.lvOf hu hc))
  (λs a hp=>by cases hp) ⟨ll,lo,λb hb=>by simp at hb,by simp,by unfold PhI;rfl⟩
 refine⟨StI.mk' hg hth.hl ⟨k,x,xs,[],by rw[htg];exact hh,hk,(h.i63 hu).1,by rw[htg,hli,hos];simp;omega⟩ e hi (KS.refl _),.inr (.inr ?_)⟩;rw[e,hs];exact⟨rfl,rfl,hm,rfl⟩
theorem Wkn (h:HI H held s0)(hg:H.ths[t]?=some g){m:Nat}(hph:g.ph=some (.large m)){cl sz:Int}(hr:Rq H.tb g (.large m) cl sz):StI H t (.large m)/\EfM H t (.large m) cl sz:=by
 have ht:=(gSi.1 hg).1;have hth:=h.th g (h.mem hg);obtain⟨hh,hm1,hm2⟩:g.hands=[]/\1<=m/\m<=64:=by have:=hth.ph;unfold PhI at this;rw[hph]at this;exact this
 obtain⟨rfl,rfl⟩:=hr;have hA:=h.arn t;have ga:=h.wi.ga _ _ hA;obtain⟨e1,e2,e5,e3,e4⟩:=h.sim.takeAS (H.arn t) (m:Int) 1;have wi:=h.wi.takeP hA (m:Int) 1;rw[show(Wd.mk H.tb s0 H.ars held).sp=s0 from rfl,←e1,←e2,←e5]at wi;by_cases h0:Qv (H.arn t) H.sp (m:Int) 1=0
 ·rw[zB h0]at wi;have hnew:=Wiu wi;have happ:=Wk4 (held:=held) (new:=[(⟨H.own t, -1,Z4 (H.arn t) H.sp (m:Int) 1*256,(m:Int).toNat*256,false⟩:Pc)]) (cl:=-1) (l:=[((Z4 (H.arn t) H.sp (m:Int) 1*256:Nat):Int)]) (λp hp=>by
   simp only[zZ]at hp;subst hp;exact⟨rfl,rfl,by simp⟩) λx hx=>by
   simp only[zZ]at hx;subst hx;exact⟨_,zZ.2 rfl,rfl⟩
  have hpm:(⟨H.own t, -1,Z4 (H.arn t) H.sp (m:Int) 1*256,(m:Int).toNat*256,false⟩:Pc)∈held++[(⟨H.own t, -1,Z4 (H.arn t) H.sp (m:Int) 1*256,(m:Int).toNat*256,false⟩:Pc)]:=by simp
  have hsz:=wi.size_pos hpm;have hadr:=wi.addr_lt hpm;have how:=wi.owner hpm (x:=Z4 (H.arn t) H.sp (m:Int) 1*256) (zC _) (by simp only at hsz ⊢;omega);generalize hV:Z4 (H.arn t) H.sp (m:Int) 1=V at *;have hmn:mget H.live ((V*256:Nat):Int)=none:=h.not_um λk' hu=>hnew _ (zZ.2 rfl) k' hu;have hs:Wt H t (.large m)=({{H.setA (H.own t) (takeAS (H.arn t) H.sp (m:Int) 1).1 with sp:=(takeAS (H.arn t) H.sp (m:Int) 1).2,live:=mset H.live ((V*256:Nat):Int) (((V*256:Nat):Int),((m*256:Nat):Int), -1,Yk (H.ars.set (H.own t) (takeAS (H.arn t) H.sp (m:Int) 1).1) ((V*256:Nat):Int))}with ths:=H.ths.set t g},none,((V*256:Nat):Int),0):=by
   have:H.ths.set t g=H.ths:=Qh hg;rw[this];simp only[Wt,h0,zO,Hw.setA,VC,hV]
  have e:=Z1 (H1:={H.setA (H.own t) (takeAS (H.arn t) H.sp (m:Int) 1).1 with sp:=(takeAS (H.arn t) H.sp (m:Int) 1).2,live:=mset H.live ((V*256:Nat):Int) (((V*256:Nat):Int),((m*256:Nat):Int), -1,Yk (H.ars.set (H.own t) (takeAS (H.arn t) H.sp (m:Int) 1).1) ((V*256:Nat):Int))}) ht hs;have hi:=h.upd hg (g':={g with ph:=none}) (live':=mset H.live ((V*256:Nat):Int) (((V*256:Nat):Int),((m*256:Nat):Int), -1,Yk (H.ars.set (H.own t) (takeAS (H.arn t) H.sp (m:Int) 1).1) ((V*256:Nat):Int))) wi e3 e4.l (by simp[Wd.put]) (WgN wi) (λk' y=>by
   rw[Wcc _ hmn,Wd0 (l:=[((V*256:Nat):Int)]) (cl:=-1) (by simp) (λy hy=>by
    simp only[zZ]at hy;subst hy;exact hnew _ (zZ.2 rfl) _) happ]
   unfold cnT;rw[hph];simp only[cnP];omega) (Go.Vc.mset_keys h.lk) (λe' he=>by
    rcases(VY hmn).1 he with he|rfl
    ·exact .inl he
    ·refine .inr ⟨rfl,_,hpm,rfl,rfl,rfl,?_,?_⟩
     ·simp
     ·exact how) (λs a hp=>by cases hp) ⟨hth.ll,hth.lo,hth.hb,hth.hl,by
    unfold PhI;exact hh⟩
  refine⟨StI.mk' hg hth.hl ?_ e hi e4,.inr (.inr ?_)⟩
  ·show Z4 (H.arn t) H.sp (m:Int) 1<=1000000;rw[hV];simp only at hadr;omega
  ·rw[e,hs];exact⟨rfl,rfl,hmn,rfl⟩
 ·rw[zA h0]at wi;have hV:Z4 (H.arn t) H.sp (m:Int) 1=0:=by
   unfold Qv at h0;unfold Z4;split
   ·rename_i hp;rw[hp,zB rfl]at h0;split at h0
    ·exact(h0 rfl).elim
    ·rename_i hn;cases hx:(getA (H.arn t) H.sp (m:Int).toNat (1:Int).toNat 41).1 with
     | none=>rfl
     | some y=>rw[hx]at hn;simp at hn
   ·rfl
  have hs:Wt H t (.large m)=({{H.setA (H.own t) (takeAS (H.arn t) H.sp (m:Int) 1).1 with sp:=(takeAS (H.arn t) H.sp (m:Int) 1).2}with ths:=H.ths.set t g},none,0,Qv (H.arn t) H.sp (m:Int) 1):=by
   have:H.ths.set t g=H.ths:=Qh hg;rw[this];simp only[Wt,h0,zp,Hw.setA]
  have e:=Z1 (H1:={H.setA (H.own t) (takeAS (H.arn t) H.sp (m:Int) 1).1 with sp:=(takeAS (H.arn t) H.sp (m:Int) 1).2}) ht hs;have hi:=h.upd hg (g':={g with ph:=none}) (live':=H.live) wi e3 e4.l (by simp[Wd.put]) (λp hp _=>.inl hp) (λk' y=>by
   unfold cnT;rw[hph];simp only[cnP]) h.lk (λe' he=>.inl he) (λs a hp=>by cases hp) ⟨hth.ll,hth.lo,hth.hb,hth.hl,by
    unfold PhI;exact hh⟩
  refine⟨StI.mk' hg hth.hl ?_ e hi e4,.inr (.inl ?_)⟩
  ·show Z4 (H.arn t) H.sp (m:Int) 1<=1000000;rw[hV];omega
  ·rw[e,hs];exact⟨rfl,h0,rfl,rfl⟩
theorem Wnb {W:Wd}(h:WI W)(hk:W.ars[k]?=some A){j:Nat}{l:List Int}(hl:∀x∈l,∃p∈W.held,isAt k (j:Int) x p=true)(hn:l.Nodup)(hj:j<W.tb.length):QU A (j:Int) l=0/\WI (W.put k (Y1 A (j:Int) l) W.sp (W.held.filter λp=>!isOf k (j:Int) l p)):=by
 have ga:=h.ga k A hk;have ho:ownW W.held k (j:Int) l=true:=KA.2 ⟨hl,hn⟩;obtain⟨c,ss,_,hc,_⟩:=ga.cl (k:=j) (by rw[h.tb k A hk];exact hj);have hE:QU A (j:Int) l=0:=by
  rw[HB ga hc];refine Wg8 ⟨λx hx=>?_,hn⟩;obtain⟨p,hp,hpx⟩:=hl x hx;obtain⟨a1,a2,a3,a4⟩:=KB.1 hpx;obtain⟨_,_,_,htk,_⟩:=h.cls hp a2 (by rw[a1];exact hk);rw[a3]at htk;exact(KM hc).1 htk
 refine⟨hE,?_⟩;have:=h.toC hk ho;rw[zB hE,h.drp ho]at this;exact this
theorem Wdh {xs:List Int}{tb:List Cls}{ars0:List AR}(hH:H.tb=tb)(h:WI ⟨tb,s0,H.ars,held⟩)(hk:k<tb.length)(hxs:∀x∈xs,Um held (k:Int) x)(hn:xs.Nodup)(ha:∀p∈held,Yk ars0 (p.addr:Int)=(p.k:Int)):∀j,j<=H.ars.length →
 ∃ars',Vd H k (ZK ars0 xs) (List.range j) = {H with ars:=ars'}/\ars'.length=H.ars.length/\WI ⟨tb,s0,ars',held.filter λp=>!(decide (p.k<j)&&(p.cls==(k:Int)&&xs.contains (p.addr:Int)))⟩
 | 0,_=>by
  refine⟨H.ars,rfl,rfl,?_⟩;have:(held.filter λp=>!(decide (p.k<0)&&(p.cls==(k:Int)&&xs.contains (p.addr:Int))))=held:=zCB.2 λp _=>by simp
  rw[this];exact h
 | j+1,hj=>by
  obtain⟨ars',e,hl,wi⟩:=Wdh hH h hk hxs hn ha j (by omega);rw[KZ,e];have hA:ars'[j]?=some (ars'[j]'(by omega)):=gGe _;simp only[hA];have WbC:∀{p:Pc},p∈held->p.k=j->((p.addr:Int)∈ZK ars0 xs j↔(p.addr:Int)∈xs):=λ{p} hp hpk=>by
   unfold ZK;rw[zG,ha p hp,hpk];simp
  have filt:((held.filter λp=>!(decide (p.k<j)&&(p.cls==(k:Int)&&xs.contains (p.addr:Int)))).filter λp=>!isOf j (k:Int) (ZK ars0 xs j) p)=held.filter λp=>!(decide (p.k<j+1)&&(p.cls==(k:Int)&&xs.contains (p.addr:Int))):=by
   rw[zFS];apply zEU;intro p hp;have e1:isOf j (k:Int) (ZK ars0 xs j) p=(p.k==j&&(p.cls==(k:Int)&&xs.contains (p.addr:Int))):=by
    unfold isOf;by_cases hpk:p.k=j
    ·have:=WbC hp hpk;have e2:(ZK ars0 xs j).contains (p.addr:Int)=xs.contains (p.addr:Int):=by
      rw[zBF,zCW,zCW];exact this
     rw[e2]
    ·have:(p.k==j)=false:=by simpa using hpk
     rw[this];rfl
   rw[e1];have e3:decide (p.k<j+1)=(decide (p.k<j)||p.k==j):=by
    rw[zBF];simp;omega
   rw[e3];cases p.k==j<;>cases decide (p.k<j)<;>cases(p.cls==(k:Int)&&xs.contains (p.addr:Int))<;>rfl
  by_cases hp:ZK ars0 xs j=[]
  ·rw[zB hp];refine⟨ars',rfl,hl,?_⟩;rw[←filt,hp];have:∀p:Pc,(!isOf j (k:Int) [] p)=true:=λp=>by simp[isOf]
   rw[zCB.2 λp _=>this p];exact wi
  ·rw[zA hp];refine⟨ars'.set j (Y1 (ars'[j]'(by omega)) (k:Int) (ZK ars0 xs j)),by simp[Hw.setA],by simp[hl],?_⟩;rw[←filt];refine(Wnb wi hA (j:=k) (l:=ZK ars0 xs j) (λx hx=>?_) (hn.sublist zCK) hk).2;unfold ZK at hx;obtain⟨hx1,hx2⟩:=zG.1 hx;obtain⟨p,hp,h1,h2,h3⟩:=hxs x hx1;have hpk:p.k=j:=by
    have:=ha p hp;rw[h3]at this;rw[this]at hx2;have:(p.k:Int)=(j:Int):=by simpa using hx2
    omega
   exact⟨p,zG.2 ⟨hp,by simp[hpk]⟩,KB.2 ⟨hpk,h2,h3,h1⟩⟩
theorem Wkm {tb:List Cls}(hH:H.tb=tb)(h:WI ⟨tb,s0,H.ars,held⟩){own:Nat}(hown:own<H.ars.length)(hk:k<tb.length){xs:List Int}(hxs:∀x∈xs,Um held (k:Int) x)(hn:xs.Nodup) :
 ∃ars' held',HN H own k xs = {H with ars:=ars'}/\ars'.length=H.ars.length/\WI ⟨tb,s0,ars',held'⟩/\(∀c x,Um held' c x↔Um held c x/\¬(c=(k:Int)/\x∈xs))/\∀p∈held',p.moved=false->p∈held:=by
 have hA:H.ars[own]?=some H.ars[own]:=gGe hown;have ha:∀p∈held,Yk H.ars (p.addr:Int)=(p.k:Int):=λp hp=>h.owner hp (zC _) (by have:=(h.size_pos hp).1;omega);have all:∃ars' held',Vd H k (ZK H.ars xs) (List.range H.ars.length) = {H with ars:=ars'}/\ars'.length=H.ars.length/\WI ⟨tb,s0,ars',held'⟩/\(∀c x,Um held' c x↔Um held c x/\¬(c=(k:Int)/\x∈xs))/\∀p∈held',p.moved=false->p∈held:=by
  obtain⟨ars',e,hl,wi⟩:=Wdh hH h hk hxs hn ha H.ars.length (zC _);refine⟨ars',_,e,hl,wi,λc x=>?_,λp hp _=>(zG.1 hp).1⟩;constructor
  ·rintro⟨p,hp,h1,h2,h3⟩;obtain⟨hp,hf⟩:=zG.1 hp;refine⟨⟨p,hp,h1,h2,h3⟩,?_⟩;rintro⟨rfl,hx⟩;obtain⟨B,hB,_⟩:=h.hf p hp;have hpl:p.k<H.ars.length:=(gSi.1 hB).1;rw[h2,h3]at hf;simp[hpl,hx]at hf
  ·rintro⟨⟨p,hp,h1,h2,h3⟩,hno⟩;refine⟨p,zG.2 ⟨hp,?_⟩,h1,h2,h3⟩;rw[h2,h3];by_cases hc:c=(k:Int)
   ·have:x∉xs:=λhx=>hno ⟨hc,hx⟩;simp[this]
   ·simp[hc]
 unfold HN;rw[hA];simp only;by_cases hcond:(ZK H.ars xs own).length=xs.length/\Vh H.ars[own] (k:Int) xs=true
 ·rw[zB hcond];have hin:∀x∈xs,Yk H.ars x=(own:Int):=by
   have h1:ZK H.ars xs own=xs:=by
    unfold ZK at hcond ⊢;exact List.filter_sublist.eq_of_length hcond.1
   intro x hx;rw[←h1]at hx;unfold ZK at hx;simpa using(zG.1 hx).2
  have ho:ownW held own (k:Int) xs=true:=KA.2 ⟨λx hx=>by
   obtain⟨p,hp,h1,h2,h3⟩:=hxs x hx;have h4:=ha p hp;rw[h3,hin x hx]at h4;exact⟨p,hp,KB.2 ⟨by omega,h2,h3,h1⟩⟩,hn⟩
  have wi:=h.toT hA ho;rw[zB hcond.2]at wi;exact⟨_,_,rfl,by simp[Hw.setA],wi,WjI h ho,WhO⟩
 ·rw[zA hcond];have e:(if(ZK H.ars xs own).length=xs.length then H.setA own (Q6 H.ars[own] (k:Int) xs)else H)=H:=by
   split
   ·rename_i hl;have hv:Vh H.ars[own] (k:Int) xs=false:=by
     apply zBB.2;intro hx;exact hcond ⟨hl,hx⟩
    have:Q6 H.ars[own] (k:Int) xs=H.ars[own]:=by unfold Q6;rw[hv];rfl
    rw[this];exact Wcr hA
   ·rfl
  rw[e];exact all
def isF:Ph->Prop
 | .find _=>True
 | .put _ _=>True
 | .back=>True
 | .give _ _=>True
 | .drain=>True
 | _=>False
def WaX (g:Th):Ph->Nat
 | .find _=>101
 | .put _ _=>100
 | .drain=>100
 | .back=>g.hands.length
 | _=>0
def EfF (H:Hw)(t:Nat)(g:Th)(p:Ph):Prop:=(Wt H t p).2.2.1=0 ∧
 ((∃p' g',(Wt H t p).2.1=some p'/\isF p'/\(∀x,p'≠.find x)/\(QC H t p).ths[t]?=some g'/\WaX g' p'<WaX g p)\/(Wt H t p).2.1=none) ∧
 ((∀x,p≠.find x)->(Wt H t p).2.2.2=0/\(QC H t p).live=H.live) ∧
 (∀x,p=.find x->(mget H.live x=none->(Wt H t p).2.1=none/\(Wt H t p).2.2.2≠0/\(QC H t p).live=H.live)/\(∀b,mget H.live x=some b->(Wt H t p).2.2.2=0/\(QC H t p).live=mdel H.live x))
theorem WdF (hg:H.ths[t]?=some g):retH H t=if g.hands=[]then none else some .back:=by unfold retH;rw[hg]
theorem Wmy (h:HI H held s0)(hg:H.ths[t]?=some g){x:Int}(hph:g.ph=some (.find x)):StI H t (.find x)/\EfF H t g (.find x):=by
 have ht:=(gSi.1 hg).1;have hth:=h.th g (h.mem hg);obtain⟨hh,hx⟩:g.hands=[]/\I63 x:=by have:=hth.ph;unfold PhI at this;rw[hph]at this;exact this
 have hro:∀A∈H.ars,RunsOk A:=λA hA=>by
  obtain⟨j,hj⟩:=zM hA;exact(h.wi.ga j A hj).runsOk
 cases hm:mget H.live x with
 | none=>
  have hs:Wt H t (.find x)=({H with ths:=H.ths.set t g},none,0,whyH H x):=by
   have:H.ths.set t g=H.ths:=Qh hg;rw[this];simp only[Wt,U0,hm]
  have e:=Z1 ht hs;have hi:=h.updT hg (g':={g with ph:=none}) (live':=H.live) (λk' x=>by
   unfold cnT;rw[hph];simp only[cnP]) h.lk (λe' he=>.inl he) (λs a hp=>by cases hp) ⟨hth.ll,hth.lo,hth.hb,hth.hl,by
    unfold PhI;exact hh⟩
  refine⟨StI.mk' hg hth.hl ⟨hx,λ_=>hro,λb hb=>by rw[hm]at hb;cases hb⟩ e hi (KS.refl _),?_⟩;unfold EfF;rw[e,hs];refine⟨rfl,.inr rfl,λhn=>(hn x rfl).elim,λy hy=>?_⟩;cases hy;refine⟨λ_=>⟨rfl,?_,rfl⟩,(λb hb=>by rw[hm]at hb;cases hb)⟩;show whyH H x≠0;unfold whyH
  repeat' split
  all_goals simp
 | some b=>
  have hme:=GB hm;obtain⟨_,p,hp,h1,h2,h3,h4,h5⟩:=h.lv _ hme;simp only at h2 h3 h4 h5;have hx0:0<=x:=by omega
  obtain⟨A,hA,hd⟩:=h.wi.hf p hp;have hP:Wf3 H t (.find x):=⟨hx,(λhn=>by rw[hm]at hn;cases hn),λ_ _=>hx0⟩;rcases hd with⟨c1,_,r,hr,c2,c3⟩|⟨j,c,c1,c2,c3,_⟩
  ·have hneg:b.2.2.1 = -1:=by rw[←h2,c1]
   have hs:Wt H t (.find x)=({{H with live:=mdel H.live x}with ths:=H.ths.set t g},some (.give (x/256) b.2.2.2),0,0):=by
    have:H.ths.set t g=H.ths:=Qh hg;rw[this];simp only[Wt,U0,hm];rw[zB (by omega)]
   have e:=Z1 (H1:={H with live:=mdel H.live x}) ht hs;have hx256:x/256*256=x:=by omega
   have hi:=h.updT hg (g':={g with ph:=some (.give (x/256) b.2.2.2)}) (live':=mdel H.live x) (λk' y=>by
    have h6:=WbZ h.lk hm k' y;rw[hneg]at h6;unfold cnT;rw[hph];simp only[cnP,hx256];by_cases hy:x=y
    ·subst hy;rw[zGR]at h6;by_cases hk : -1=k'
     ·rw[zB hk]at h6;rw[zB ⟨hk.symm,rfl⟩];omega
     ·rw[zA hk]at h6;rw[zA (λhx=>hk hx.1.symm)];omega
    ·have:[x].count y=0:=zEM.2 (by simp;omega);rw[this]at h6;rw[zA (λhx=>hy hx.2.symm)];split at h6<;>omega)
    (Go.Vc.mdel_keys h.lk) (λe' he=>.inl (GD.1 he).1) (λs a hsa=>by
     cases hsa;exact⟨p,hp,h1,c1,by rw[hx256];exact h3,h5⟩) ⟨hth.ll,hth.lo,hth.hb,hth.hl,by
      unfold PhI;exact hh⟩
   refine⟨StI.mk' hg hth.hl hP e hi (KS.refl _),?_⟩;unfold EfF;rw[e,hs];refine⟨rfl,.inl ⟨_,_,rfl,trivial,(λy hy=>by cases hy),zK ht,by simp[WaX]⟩,λhn=>(hn x rfl).elim,λy hy=>?_⟩;cases hy;exact⟨(λhn=>by rw[hm]at hn;cases hn),λ_ _=>⟨rfl,rfl⟩⟩
  ·have hbj:b.2.2.1=(j:Int):=by rw[←h2,c1]
   have hjl:j<H.tb.length:=by
    rw[h.wi.tb _ _ hA]at c2;exact(gSi.1 c2).1
   have hs:Wt H t (.find x)=({{H with live:=mdel H.live x}with ths:=H.ths.set t {g with hands:=[(j,[x])]}},some (.put j x),0,0):=by
    simp only[Wt,U0,hm];rw[zA (by omega),hbj,iTn];unfold QM;rw[Zv (g:=g) (by exact hg),hh];rfl
   have e:=Z1 (H1:={H with live:=mdel H.live x}) ht hs;have hi:=h.updT hg (g':={g with hands:=[(j,[x])],ph:=some (.put j x)}) (live':=mdel H.live x) (λk' y=>by
    have h6:=WbZ h.lk hm k' y;rw[hbj]at h6;unfold cnT;rw[hph,hh];simp only[cnP,Kz,VB];omega)
    (Go.Vc.mdel_keys h.lk) (λe' he=>.inl (GD.1 he).1) (λs a hsa=>by cases hsa) ⟨hth.ll,hth.lo,λb' hb'=>by
     simp only[zZ]at hb';subst hb';exact⟨hjl,by simp,by simp⟩,by simp,by
     unfold PhI;exact⟨rfl,hjl⟩⟩
   refine⟨StI.mk' hg hth.hl hP e hi (KS.refl _),?_⟩;unfold EfF;rw[e,hs];refine⟨rfl,.inl ⟨_,_,rfl,trivial,(λy hy=>by cases hy),zK ht,by simp[WaX]⟩,λhn=>(hn x rfl).elim,λy hy=>?_⟩;cases hy;exact⟨(λhn=>by rw[hm]at hn;cases hn),λ_ _=>⟨rfl,rfl⟩⟩
theorem WeT {f:Cls->Li->List Int×Li}{tb:List Cls}{ls:List Li}{b:Bt}(h:b∈Kb f tb ls):b.1<tb.length/\b.2≠[]/\∃c∈tb,∃l∈ls,b.2=(f c l).1:=by
 unfold Kb at h;obtain⟨k,hk,he⟩:=zEA.1 h;split at he
 ·rename_i c l hc hl;split at he
  ·cases he
  ·cases he;exact⟨zb.1 hk,by assumption,c,zD hc,l,zD hl,rfl⟩
 ·cases he
theorem WeB {f:Cls->Li->List Int×Li}{tb:List Cls}{ls:List Li}{l':Li}(h:l'∈Q8 f tb ls):∃c∈tb,∃l∈ls,l'=(f c l).2:=by
 unfold Q8 at h;obtain⟨i,hi⟩:=zM h;rw[zGN]at hi;split at hi
 ·rename_i c l hc hl;cases hi;exact⟨c,zD hc,l,zD hl,rfl⟩
 ·cases hi
theorem Wfi {f:Cls->Li->List Int×Li}{tb:List Cls}{ls:List Li}(h:ls.length=tb.length):(Q8 f tb ls).length=tb.length:=by
 unfold Q8;rw[List.length_zipWith];omega
theorem We9 (c:Cls)(l:Li):(KF c l).2.os.length<=l.os.length/\(KF c l).1.length<=l.os.length:=by
 simp only[KF,oldL,zl,zT];omega
theorem WcG (c:Cls)(l:Li):(ZM c l).2.os.length<=l.os.length/\(ZM c l).1.length<=l.os.length:=by
 simp only[ZM,oldL,zl,zT];omega
theorem WjK (h:HI H held s0)(hg:H.ths[t]?=some g)(hph:g.ph=some .drain):StI H t .drain/\EfF H t g .drain:=by
 have ht:=(gSi.1 hg).1;have hth:=h.th g (h.mem hg);have hh:g.hands=[]:=by have:=hth.ph;unfold PhI at this;rw[hph]at this;exact this
 have h40:=h.tb40;have hol:=Way ZM H.tb g.ls;have hs:Wt H t .drain=({H with ths:=H.ths.set t {g with ls:=Q8 ZM H.tb g.ls,hands:=Kb ZM H.tb g.ls}},(if Kb ZM H.tb g.ls=[]then none else some .back),0,0):=by
  simp only[Wt,Zv hg];rw[WdF (g:={g with ls:=Q8 ZM H.tb g.ls,hands:=Kb ZM H.tb g.ls}) (by simp[ht])]
 have e:=Z1 ht hs;have hi:=h.updT hg (g':={ls:=Q8 ZM H.tb g.ls,hands:=Kb ZM H.tb g.ls,ph:=if Kb ZM H.tb g.ls=[]then none else some .back}) (live':=H.live) (λk' x=>by
  have h1:=cnF (f:=ZM) WiH hth.ll k' x;unfold cnT;rw[hph,hh];have:cnP (if Kb ZM H.tb g.ls=[]then none else some Ph.back) k' x=0:=by split<;>rfl
  simp only[this,VB];simp only[cnP];omega) h.lk (λe' he=>.inl he) (λs a hp=>by
   simp only at hp;split at hp<;>cases hp) ⟨Wfi hth.ll,λl hl=>by
   obtain⟨c,_,l0,hl0,rfl⟩:=WeB hl;have:=hth.lo l0 hl0;have:=WcG c l0;exact⟨WgQ (hth.lo l0 hl0).1,by omega⟩,λb hb=>by
   obtain⟨b1,b2,c,_,l0,hl0,b3⟩:=WeT hb;have:=hth.lo l0 hl0;have:=WcG c l0;exact⟨b1,b2,by rw[b3];omega⟩,by simp only;omega,by
   unfold PhI;by_cases ho:Kb ZM H.tb g.ls=[]
   ·rw[zB ho];exact ho
   ·rw[zA ho];exact ho⟩
 refine⟨StI.mk' hg hth.hl trivial e hi (KS.refl _),?_⟩;unfold EfF;rw[e,hs];refine⟨rfl,?_,λ_=>⟨rfl,rfl⟩,λx hx=>by cases hx⟩;by_cases ho:Kb ZM H.tb g.ls=[]
 ·exact .inr (by simp only;rw[zB ho])
 ·exact .inl ⟨.back,_,by simp only;rw[zA ho],trivial,(λy hy=>by cases hy),zK ht,by simp only[WaX];omega⟩
theorem Wmu (h:HI H held s0)(hg:H.ths[t]?=some g){s a:Int}(hph:g.ph=some (.give s a)):StI H t (.give s a)/\EfF H t g (.give s a):=by
 have ht:=(gSi.1 hg).1;have hth:=h.th g (h.mem hg);have hh:g.hands=[]:=by have:=hth.ph;unfold PhI at this;rw[hph]at this;exact this
 obtain⟨p,hp,h1,h2,h3,h4⟩:=h.gv g (h.mem hg) s a hph;obtain⟨A,hA,_⟩:=h.wi.hf p hp;have hA':H.ars[p.k]?=some A:=hA;have hal:=(gSi.1 hA').1;obtain⟨_,r,hr,c2,c3⟩:=h.wi.run hp h2 hA;have ga:=h.wi.ga _ _ hA;have hs256:s=(r.1:Int):=by omega
 have hE:KN A s=0:=by
  unfold KN;rw[zB];unfold Wa0;rw[zGE];exact⟨r,hr,by simp[hs256]⟩
 have ho:ownW held p.k (-1) [s*256]=true:=by rw[hs256];exact h.wi.giveOwn hA hr
 have wi:=h.wi.giveP hA s;rw[zB hE,h.wi.drp ho]at wi;have hant:a.toNat=p.k:=by omega
 have hs:Wt H t (.give s a)=({H.setA p.k (Qz A s)with ths:=H.ths.set t g},none,0,0):=by
  have:H.ths.set t g=H.ths:=Qh hg;rw[this];simp only[Wt,hant,hA',Hw.setA]
 have e:=Z1 (H1:=H.setA p.k (Qz A s)) ht hs;have hi:=h.upd hg (g':={g with ph:=none}) (live':=H.live) wi h.sim rfl (by simp[Wd.put]) (λq hq _=>.inl (zG.1 hq).1) (λk' x=>by
  have h6:=Wh4 (held':=held.filter λp'=>!isOf p.k (-1) [s*256] p') (l:=[s*256]) (cl:=-1) (by simp) (WnV ho) (WmE h.wi ho) k' x;have h6:cnW held k' x=cnW (held.filter λp'=>!isOf p.k (-1) [s*256] p') k' x+(if -1=k' then[s*256].count x else 0):=h6
  unfold cnT;rw[hph];simp only[cnP];by_cases hy:s*256=x
  ·subst hy;rw[zGR]at h6;by_cases hk : -1=k'
   ·rw[zB hk]at h6;rw[zB ⟨hk.symm,rfl⟩];omega
   ·rw[zA hk]at h6;rw[zA (λhx=>hk hx.1.symm)];omega
  ·have:[s*256].count x=0:=zEM.2 (by simp;omega);rw[this]at h6;rw[zA (λhx=>hy hx.2.symm)];split at h6<;>omega) h.lk (λe' he=>.inl he) (λs a hp=>by cases hp) ⟨hth.ll,hth.lo,hth.hb,hth.hl,by
   unfold PhI;exact hh⟩
 refine⟨StI.mk' hg hth.hl ⟨by omega,by omega,λB hB q hq=>?_⟩ e hi (KS.refl _),?_⟩
 ·obtain⟨j,hj⟩:=zM hB;have gb:=h.wi.ga j B hj;have:=gb.fit hq;have:=gb.pg.n2;omega
 ·unfold EfF;rw[e,hs];exact⟨rfl,.inr rfl,λ_=>⟨rfl,rfl⟩,λx hx=>by cases hx⟩
theorem Wl6 (h:HI H held s0)(hg:H.ths[t]?=some g)(hph:g.ph=some .back):StI H t .back/\EfF H t g .back:=by
 have ht:=(gSi.1 hg).1;have hth:=h.th g (h.mem hg);have hh:g.hands≠[]:=by have:=hth.ph;unfold PhI at this;rw[hph]at this;exact this
 have htg:=Ga hg;cases hhd:g.hands with
 | nil=>exact(hh hhd).elim
 | cons b r=>
  obtain⟨k,xs⟩:=b;obtain⟨hk,hxne,hxl⟩:=hth.hb (k,xs) (by rw[hhd];simp);simp only at hk hxne hxl;have hcnt:∀x,xs.count x<=cnT g (k:Int) x:=λx=>by
   unfold cnT;rw[hhd,Kz,zB rfl];simp only;omega
  have hum:∀x∈xs,Um held (k:Int) x:=λx hx=>h.um_t (h.mem hg) (zN (zGQ.2 hx) (hcnt x));have hnd:xs.Nodup:=zGP.2 λx=>by
   have h1:=hcnt x;have h2:=h.cnT_le (h.mem hg) (k:Int) x;have h3:=Wld held (k:Int) x;omega
  obtain⟨ars',held',eb,hal,wi,um,sub⟩:=Wkm (H:={H with ths:=H.ths.set t {g with hands:=r}}) (tb:=H.tb) rfl h.wi (h.own_lt t) hk hum hnd;have hs:Wt H t .back=({{H with ars:=ars'}with ths:=H.ths.set t {g with hands:=r}},(if r=[]then none else some .back),0,0):=by
   simp only[Wt,htg,hhd,Zv hg,eb];rw[WdF (g:={g with hands:=r}) (by simp[ht])]
  have e:=Z1 (H1:={H with ars:=ars'}) ht hs;have hi:=h.upd hg (g':={g with hands:=r,ph:=if r=[]then none else some .back}) (live':=H.live) wi h.sim rfl hal (λp hp hm=>.inl (sub p hp hm)) (λk' x=>by
   have h1:=Wh4 hnd hum um k' x;unfold cnT;rw[hph,hhd,Kz];have:cnP (if r=[]then none else some Ph.back) k' x=0:=by split<;>rfl
   simp only[this];simp only[cnP];omega) h.lk (λe' he=>.inl he) (λs a hp=>by
    simp only at hp;split at hp<;>cases hp) ⟨hth.ll,hth.lo,λb hb=>hth.hb b (by rw[hhd];exact zAS _ hb),by have:=hth.hl;rw[hhd]at this;simp at this ⊢;omega,by
    unfold PhI;by_cases ho:r=[]
    ·rw[zB ho];exact ho
    ·rw[zA ho];exact ho⟩
  refine⟨StI.mk' hg hth.hl ⟨k,xs,r,by rw[htg];exact hhd,λx hx=>⟨(h.i63 (hum x hx)).1,(h.i63 (hum x hx)).2.2⟩,by omega⟩ e hi (KS.refl _),?_⟩;unfold EfF;rw[e,hs];refine⟨rfl,?_,λ_=>⟨rfl,rfl⟩,λx hx=>by cases hx⟩;by_cases ho:r=[]
  ·exact .inr (by simp only;rw[zB ho])
  ·exact .inl ⟨.back,_,by simp only;rw[zA ho],trivial,(λy hy=>by cases hy),zK ht,by simp only[WaX];rw[hhd];simp⟩
theorem Wng (h:HI H held s0)(hg:H.ths[t]?=some g){x:Int}(hph:g.ph=some (.put k x)):StI H t (.put k x)/\EfF H t g (.put k x):=by
 have ht:=(gSi.1 hg).1;have hth:=h.th g (h.mem hg);obtain⟨hh,hk⟩:g.hands=[(k,[x])]/\k<H.tb.length:=by have:=hth.ph;unfold PhI at this;rw[hph]at this;exact this
 obtain⟨c,hc,hok⟩:=h.cls hk;obtain⟨l,hl,hli,hlo,hlm⟩:=hth.li hk;have htg:=Ga hg;have h40:=h.tb40;have hpo:=WlM (x:=x) hok hlo;have hpc:=WmI c x l (by omega);have hol:(putL c x l).1.length<=129/\(putL c x l).2.os.length<=128:=by
  have hlim:=hlo.lim;have hadd:(addL [x] l).os=l.os++[x]:=by unfold addL;rw[zA (by simp;omega)]
  have hup:(upL c (addL [x] l)).os=l.os++[x]:=by rw[←hadd];unfold upL;split<;>rfl
  unfold Cls.ok at hok;unfold putL;rw[zA (by omega)];split
  ·rw[hadd];simp;omega
  ·simp only[oldL,hup,zT,zl,zQ,zGK];omega
 obtain⟨ll,lo⟩:=hth.setL (k:=k) hpo hol.2;have hhe:∃hs:List Bt,(if(putL c x l).1=[]then[]else[(k,(putL c x l).1)])=hs:=⟨_,rfl⟩
 obtain⟨hs2,hhs2⟩:=hhe;have hs2l:hs2.length<=1:=by rw[←hhs2];split<;>simp
 have hs2b:∀b∈hs2,b.1<H.tb.length/\b.2≠[]/\b.2.length<=256:=λb hb=>by
  rw[←hhs2]at hb;split at hb
  ·simp at hb
  ·simp only[zZ]at hb;subst hb;exact⟨hk,by assumption,by simp only;omega⟩
 have hs2c:∀k' y,cnB hs2 k' y=if(k:Int)=k' then(putL c x l).1.count y else 0:=λk' y=>by
  rw[←hhs2];split
  ·rename_i hn;rw[hn,VB];simp
  ·simp only[Kz,VB,zo]
 let g3:Th:={g with ls:=g.ls.set k (putL c x l).2,hands:=hs2}
 let g4:Th:=if H.cf.budget<Q4 H.tb g3.ls then{g3 with ls:=Q8 KF H.tb g3.ls,hands:=g3.hands++Kb KF H.tb g3.ls}else g3
 have hpe:putH H t k x = {H with ths:=H.ths.set t g4}:=by
  have e2:(if(putL c x l).1=[]then H.setT t λh=>h.setL k (putL c x l).2 else QM (H.setT t λh=>h.setL k (putL c x l).2) t k (putL c x l).1) = {H with ths:=H.ths.set t {g with ls:=g.ls.set k (putL c x l).2,hands:=(k,[x])::hs2}}:=by
   rw[←hhs2];split
   ·rw[Zv hg,←hh];rfl
   ·rw[Zv hg];unfold QM;rw[Zv (g:=g.setL k (putL c x l).2) (by simp[ht])];simp only[zBK,Th.setL,hh];rfl
  have e3:({H with ths:=H.ths.set t {g with ls:=g.ls.set k (putL c x l).2,hands:=(k,[x])::hs2}}:Hw).setT t (λh=>{h with hands:=h.hands.drop 1}) = {H with ths:=H.ths.set t g3}:=by
   rw[Zv (g:={g with ls:=g.ls.set k (putL c x l).2,hands:=(k,[x])::hs2}) (by simp[ht])];simp only[zBK,zFE,List.drop_zero];rfl
  have hg3e:({H with ths:=H.ths.set t g3}:Hw).ths[t]?=some g3:=by simp[ht]
  unfold putH;simp only[V9 hc,htg,hli,e2,e3,Ga hg3e,Zv hg3e,zBK];show(if H.cf.budget<Q4 H.tb g3.ls then _ else _)=_
  simp only[g4];split<;>rfl
 have hg4:g4.ph=g.ph:=by simp only[g4];split<;>rfl
 have g4c:∀k' y,cnL g4.ls k' y+cnB g4.hands k' y=cnL g.ls k' y+cnB g.hands k' y:=λk' y=>by
  have h1:=Gy hl (putL c x l).2 k' y;have h2:=hpc y;have h3:cnL g3.ls k' y+cnB g3.hands k' y=cnL g.ls k' y+cnB g.hands k' y:=by
   simp only[g3];rw[hs2c,hh,Kz,VB];by_cases hkk:(k:Int)=k'
   ·simp only[hkk,zO]at h1 ⊢;omega
   ·simp only[hkk,zp]at h1 ⊢;omega
  simp only[g4];split
  ·have h4:=cnF (f:=KF) Wkc (tb:=H.tb) (ls:=g3.ls) ll k' y;simp only[WbB];omega
  ·exact h3
 have g4l:g4.ls.length=H.tb.length/\(∀l∈g4.ls,LiOk l/\l.os.length<=128)/\(∀b∈g4.hands,b.1<H.tb.length/\b.2≠[]/\b.2.length<=256)/\g4.hands.length<=41:=by
  have hsl:=Way KF H.tb g3.ls;simp only[g4];split
  ·refine⟨Wfi ll,λl hl=>?_,λb hb=>?_,by simp only[zQ,g3]at *;omega⟩
   ·obtain⟨c',hc',l0,hl0,rfl⟩:=WeB hl;have h5:=lo l0 hl0;have:=We9 c' l0;exact⟨Wfv (h.ok c' hc') h5.1,by omega⟩
   ·rcases zS.1 hb with hb|hb
    ·exact hs2b b hb
    ·obtain⟨b1,b2,c',_,l0,hl0,b3⟩:=WeT hb;have h5:=lo l0 hl0;have:=We9 c' l0;exact⟨b1,b2,by rw[b3];omega⟩
  ·exact⟨ll,lo,hs2b,by simp only[g3];omega⟩
 have hs:Wt H t (.put k x)=({H with ths:=H.ths.set t g4},(if g4.hands=[]then none else some .back),0,0):=by
  show(putH H t k x,retH (putH H t k x) t,0,0)=_;rw[hpe,WdF (g:=g4) (by simp[ht])]
 have e:=Z1 ht hs;have hi:=h.updT hg (g':={g4 with ph:=if g4.hands=[]then none else some .back}) (live':=H.live) (λk' y=>by
  have h1:=g4c k' y;unfold cnT;rw[hph];have:cnP (if g4.hands=[]then none else some Ph.back) k' y=0:=by split<;>rfl
  simp only[this];simp only[cnP];omega) h.lk (λe' he=>.inl he) (λs a hp=>by
   simp only at hp;split at hp<;>cases hp) ⟨g4l.1,g4l.2.1,g4l.2.2.1,g4l.2.2.2,by
   unfold PhI;by_cases ho:g4.hands=[]
   ·simp only[ho,zO]
   ·simp only[ho,zp];exact ho⟩
 refine⟨StI.mk' hg hth.hl ⟨hk,by rw[htg,hh];simp⟩ e hi (KS.refl _),?_⟩;unfold EfF;rw[e,hs];refine⟨rfl,?_,λ_=>⟨rfl,rfl⟩,λx hx=>by cases hx⟩;by_cases ho:g4.hands=[]
 ·exact .inr (by simp only;rw[zB ho])
 ·exact .inl ⟨.back,_,by simp only;rw[zA ho],trivial,(λy hy=>by cases hy),zK ht,by simp only[WaX];have:=g4l.2.2.2;omega⟩
end Go.Ar
namespace Go.Ar
open Go Go.Vc Go.Proofs
open Go.Bu (isPow Wad Wd5)
variable {U u w w':Hp}{F B P Q:Rg}{L:LayH}{H H':Hw}{t n:Nat}{g:Th}
def Wag (size:Int):Int:=(size+255)/256*256
def Vj (tb:List Cls)(size align:Int):Int×Int:=
 if size<=16384/\KI size align=true then(match clsV tb size align with
  | some k=>((tb.getD k ⟨8,1,1⟩).size:Int)
  | none=>Wag size,0)else(0,1)
theorem WkA {a:Int}(h1:1<=a)(h2:a<=256):(bits .and .i64 a (a-1) != 0) = !isPow a:=by
 obtain⟨a,rfl⟩:=ze (show 0<=a by omega);rw[show(a:Int)-1=((a-1:Nat):Int) by omega,Go.Bu.bits_and_i64 (by omega) (by omega),Wad,←Wd5 (by omega) (by omega)];simp only[bne,Bool.not_inj_iff];rw[zBF];simp only[zY];omega
theorem WbN (h:HH U F L H)(hc:CfOk H)(size align:Int){R:Int->Int->Hp->Prop}(hR:∀σ',Ext0 U σ'->R (Vj H.tb size align).1 (Vj H.tb size align).2 σ'):ZY.c (some ⟨L.p,0,none⟩) size align U R:=by
 refine ZY.o ?_;unfold ZY.v;refine WcE h hc λv e=>ifF rfl ?_;have h':=h.keep0 e;have bad:(size<=16384/\KI size align=true->False)->R 0 1 v:=λhn=>by
  have:=hR v e;unfold Vj at this;rw[zA hn]at this;exact this
 have key:∀r,r = !decide (size<=16384/\KI size align=true)->(If r (R 0 1 v) (YH.c (some ⟨L.p,0,none⟩) v λtable v5=>ZN.c table size align v5 λt44 t441 v6=>If (t441==0) (Ix table.a table.len t44 3 λa51=>LdI .i64 (a51.add 0) v6 λt53=>R t53 0 v6) (Ar .i64 (size+256) λt55=>Ar .i64 (t55-1) λt56=>Nz 256<|Ar .i64 (t56.tdiv 256) λt57=>Ar .i64 (t57*256) λt58=>R t58 0 v6))):=by
  intro r hr;by_cases hok:size<=16384/\KI size align=true
  ·rw[zI hok]at hr;have hs1:=hok.2;simp only[KI,zF,zP]at hs1;refine ifF (by rw[hr];rfl) (Whr h' h.tb40 λs v5 e5 hs=>Wfn (We5 hs) hc.2.2 size align λv6 e6=>?_);have hR6:=hR v6 ((e.trans e5).trans e6);unfold Vj at hR6;rw[zB hok]at hR6;rw[hok.2,Wfg];cases hcl:clsV H.tb size align with
   | some k=>
    rw[hcl]at hR6;have hk:k<H.tb.length:=(zGO.1 hcl).1;have hck:H.tb[k]?=some H.tb[k]:=gGe hk;have hcd:H.tb.getD k ⟨8,1,1⟩=H.tb[k]:=by rw[zL,hck];rfl
    simp only[hcd]at hR6;refine ifT rfl (Gf ((SlR.loc _ _ _).keep0 ((SlR.loc _ _ _).cut hs) e6) hck (d:=0) (by omega) ?_);simp only[zO];exact hR6
   | none=>
    rw[hcl]at hR6;refine ifF rfl (ar (by omega) (by omega) (ar (by omega) (by omega) (nz (by decide) (ar (by rw[Xm (by omega)];omega) (by rw[Xm (by omega)];omega) ?_))));rw[Xm (by omega)];refine ar (by omega) (by omega) ?_;have:(size+256-1)/256*256=Wag size:=by unfold Wag;omega
    rw[this];exact hR6
  ·rw[zH hok]at hr;exact ifT (by rw[hr];rfl) (bad hok)
 refine QD (λr w=>w=v/\r = !decide (1<=size/\size<=16384)) (λr w ⟨hw,hr⟩=>?_) λJ hJ=>ifD (λh1=>hJ _ _ ⟨rfl,by rw[zH (by omega)];rfl⟩) λh1=>hJ _ _ ⟨rfl,?_⟩
 ·subst hw;refine QD (λr w2=>w2=w/\r = !decide (1<=size/\size<=16384/\1<=align)) (λr w2 ⟨hw,hr1⟩=>?_) λJ1 hJ1=>?_
  ·rw[hw];refine QD (λr w2=>w2=w/\r = !decide (1<=size/\size<=16384/\1<=align/\align<=256)) (λr w2 ⟨hw,hr2⟩=>?_) λJ2 hJ2=>?_
   ·rw[hw];refine QD (λr w2=>w2=w/\r = !decide (size<=16384/\KI size align=true)) (λr w2 ⟨hw,hr3⟩=>by rw[hw];exact key r hr3) λJ3 hJ3=>?_;by_cases hb:1<=size/\size<=16384/\1<=align/\align<=256
    ·refine ifF (by rw[hr2,zI hb];rfl) (ar (by omega) (by omega) (hJ3 _ _ ⟨rfl,?_⟩));rw[WkA hb.2.2.1 hb.2.2.2];have:KI size align=isPow align:=by
      unfold KI;rw[zI hb.1,zI hb.2.2.1,zI hb.2.2.2];rfl
     rw[this];cases hp:isPow align
     ·rw[zH (by simp)]
     ·rw[zI (by simp;omega)]
    ·refine ifT (by rw[hr2,zH hb];rfl) (hJ3 _ _ ⟨rfl,?_⟩);rw[zH];rfl;rintro⟨q1,q2⟩;simp only[KI,zF,zP]at q2;exact hb ⟨q2.1,q1,q2.2.1,q2.2.2.1⟩
   ·by_cases hb:1<=size/\size<=16384/\1<=align
    ·refine ifF (by rw[hr1,zI hb];rfl) (hJ2 _ _ ⟨rfl,?_⟩);by_cases h3:align>256
     ·rw[zI h3,zH (by omega)];rfl
     ·rw[zH h3,zI (by omega)];rfl
    ·exact ifT (by rw[hr1,zH hb];rfl) (hJ2 _ _ ⟨rfl,by rw[zH (by omega)];rfl⟩)
  ·by_cases hb:1<=size/\size<=16384
   ·refine ifF (by rw[hr,zI hb];rfl) (hJ1 _ _ ⟨rfl,?_⟩);by_cases h3:align<1
    ·rw[zI h3,zH (by omega)];rfl
    ·rw[zH h3,zI (by omega)];rfl
   ·exact ifT (by rw[hr,zH hb];rfl) (hJ1 _ _ ⟨rfl,by rw[zH (by omega)];rfl⟩)
 ·by_cases h3:size>16384
  ·rw[zI h3,zH (by omega)];rfl
  ·rw[zH h3,zI (by omega)];rfl
def Vg (sp:Sp)(x:Int):Int:=if accE sp x=0 then sp.wd (x.toNat/8)else 0
def U3 (sp:Sp)(to fr:Int)(n:Nat):Sp:=(List.range n).foldl (λs (i:Nat)=>QT s (to+(i:Int)*8) (Vg sp (fr+(i:Int)*8))) sp
theorem Wfd (x:Int)(h0:0<=x)(h1:x<=1000000000000){R:Int->Hp->Prop}(hR:R (x/8) U):ZG.c x U R:=by
 refine ZG.o ?_;unfold ZG.v;refine nz (by decide) (ar (by rw[Xm (by omega)];omega) (by rw[Xm (by omega)];omega) ?_);rw[Xm h0];exact hR
theorem VH (h:HH U F L H)(x:Int)(hx:x<=9223372036854775807){R:Int->Int->Hp->Prop}(hR:∀σ',Ext0 U σ'->R (Vg H.sp x) (accE H.sp x) σ'):Xn.c (some ⟨L.p,0,none⟩) x U R:=WkE h x hx hR
theorem WkS (h:HH U F L H)(to fr:Int)(n:Nat)(ht0 : -1000000000000<=to)(ht:to<=500000000000)(hf0 : -1000000000000<=fr)(hf:fr<=500000000000)(hn:n<=1000000){R:Hp->Prop}
 (hR:∀σ',Ext F U σ'->HH σ' (Grow F U) L {H with sp:=U3 H.sp to fr n}->R σ'):ZV.c (some ⟨L.p,0,none⟩) to fr (n:Int) U R:=by
 refine ZV.o ?_;unfold ZV.v;refine mk (n:=n) (by omega) (by omega) λv hz e hb=>?_;have K1:=(HK.start h).box e hz;refine Zx (a:=.i .i64) (λ(z:Int) w=>∃(i:Nat) (cs:List Value),z=(i:Int)/\i<=n/\HK F U (λb=>False\/b=U.size) w (Cut F U) L H/\Blk w U.size cs/\cs.length=n/\∀j,j<i->cs[j]?=some (.int .i64 (Vg H.sp (fr+(j:Int)*8)))) (λz _=>n-z.toNat) ⟨0,_,rfl,by omega,K1,hb,by simp,λj hj=>by omega⟩ ?_;rintro(z:Int) w ⟨i,cs,rfl,hi,K,hbw,hcl,hrd⟩;refine ifD (λhlt=>?_) λhge=>?_
 ·refine ar (by omega) (by omega) (ar (by omega) (by omega) (VH K.h _ (by omega) λw1 e1=>?_));have K1:=K.fr e1;refine ix (by omega) (by simp only;omega) ?_;rw[add_lit,show 0+(i:Int).toNat*1=i by omega];refine(e1.blk hbw id).s0 (by omega) λw2 o2 hb2=>?_;refine arN (m:=i+1) (by omega) (by omega) ⟨⟨i+1,_,rfl,by omega,K1.own o2 (.inr rfl),hb2,by simp[hcl],λj hj=>?_⟩,by omega⟩;by_cases hji:j=i
  ·subst hji;rw[zK (by omega)]
  ·rw[zd (by omega)];exact hrd j (by omega)
 ·have hin:i=n:=by omega
  subst hin;refine Zx (a:=.i .i64) (λ(z:Int) w=>∃(j:Nat) (P:Rg),z=(j:Int)/\j<=i/\HK F U (λb=>False\/b=U.size) w P L {H with sp:=U3 H.sp to fr j}/\Blk w U.size cs) (λz _=>i-z.toNat) ⟨0,_,rfl,by omega,K,hbw⟩ ?_;rintro(z:Int) w ⟨j,P,rfl,hj,K,hbw⟩;refine ifD (λhlt=>?_) λhge=>?_
  ·simp only at hlt;refine ix (by omega) (by simp only;omega) ?_;rw[add_lit,show 0+(j:Int).toNat*1=j by omega];refine hbw.rI0 (hrd j (by omega)) (ar (by omega) (by omega) (ar (by omega) (by omega) (Hg K.h _ _ (by omega) λw1 e1 h1=>?_)));have K1:=K.to e1 h1 λb _ hb=>hb;have hsn:QT (U3 H.sp to fr j) (to+(j:Int)*8) (Vg H.sp (fr+(j:Int)*8))=U3 H.sp to fr (j+1):=by
    unfold U3;rw[zr,zv];rfl
   simp only[hsn]at K1;exact arN (m:=j+1) (by omega) (by omega) ⟨⟨j+1,_,rfl,by omega,K1,K.keepB e1 hbw (.inr rfl)⟩,by omega⟩
  ·have hji:j=i:=by simp only at hge;omega
   subst hji;exact hR w K.e (K.fin h)
end Go.Ar
namespace Go.Ar
open Go Go.Vc Go.Proofs
variable {U u w w':Hp}{F B P Q:Rg}{L:LayH}{H H':Hw}{t n:Nat}{g:Th}
def ZJ (H:Hw)(x:Int):Option Int:=(mget H.live x).map λb=>b.2.1
inductive ReaR (H:Hw) (thread addr size:Int):Hw->Int->Int->Prop
 | notReady:Qp H thread≠0->ReaR H thread addr size H 0 (Qp H thread)
 | bad:Qp H thread=0->size<0\/16384<size->ReaR H thread addr size H 0 1
 | none:Qp H thread=0->addr=0->size=0->ReaR H thread addr size H 0 0
 | first {H':Hw} {a e:Int}:Qp H thread=0->addr=0->0<size->size<=16384->Va H thread 0 size 8 0 H' a e->ReaR H thread addr size H' a e
 | wild:Qp H thread=0->addr≠0->0<=size->size<=16384->ZJ H addr=Option.none->ReaR H thread addr size H 0 8
 | free {H':Hw} {a e u:Int}:Qp H thread=0->addr≠0->size=0->ZJ H addr=some u->Va H thread 1 0 0 addr H' a e->ReaR H thread addr size H' 0 e
 | same {u:Int}:Qp H thread=0->addr≠0->0<size->size<=16384->ZJ H addr=some u->size<=u/\u<=2*(Vj H.tb size 8).1->ReaR H thread addr size H addr 0
 | full {H':Hw} {a e u:Int}:Qp H thread=0->addr≠0->0<size->size<=16384->ZJ H addr=some u->¬(size<=u/\u<=2*(Vj H.tb size 8).1)->Va H thread 0 size 8 0 H' a e->e≠0->ReaR H thread addr size H' 0 e
 | moved {H1 H3:Hw} {a u u2 a3 e3:Int}:Qp H thread=0->addr≠0->0<size->size<=16384->ZJ H addr=some u->¬(size<=u/\u<=2*(Vj H.tb size 8).1)->Va H thread 0 size 8 0 H1 a 0->ZJ H1 a=some u2->0<=u->0<=u2->(0<=a/\a<=500000000000/\0<=addr/\addr<=500000000000/\u<=1000000/\u2<=1000000) →
  Va {H1 with sp:=U3 H1.sp a addr ((min u2 u).toNat/8)} thread 1 0 0 addr H3 a3 e3->ReaR H thread addr size H3 a 0
theorem Wca {tb:List Cls}{size align:Int}{k:Nat}(h:clsV tb size align=some k):k<tb.length:=(zGO.1 h).1
theorem Wb9 {tb:List Cls}(hv:TbOk tb)(size align:Int)(h:size<=16384):0<=(Vj tb size align).1/\(Vj tb size align).1<=100000:=by
 unfold Vj;split
 ·rename_i hok;have hs1:=hok.2;simp only[KI,zF,zP]at hs1;split
  ·rename_i k hk;have hlt:=Wca hk;have hc:tb[k]?=some tb[k]:=gGe hlt;have hcd:tb.getD k ⟨8,1,1⟩=tb[k]:=by rw[zL,hc];rfl
   rw[hcd];have hx:(tb.map clsT)[k]?=some (clsT tb[k]):=by simp[hc]
   have:=((Z7 _).1 hv).2.2.1 k _ hx;rw[Uf]at this;simp only[clsT]at this;omega
  ·unfold Wag;simp only;omega
 ·simp
theorem QG (h:HH U F L H)(x:Int){R:Int->Int->Hp->Prop}(hR:∀σ',Ext0 U σ'->R ((ZJ H x).getD 0) (if(ZJ H x).isSome then 0 else 8) σ'):Xd.c (some ⟨L.p,0,none⟩) x U R:=by
 refine WfD h x λσ' e=>?_;have:=hR σ' e;unfold ZJ at this;cases hm:mget H.live x with
 | none=>rw[hm]at this;exact this
 | some b=>rw[hm]at this;exact this
theorem Hu (hso:UW)(h:HH U F L H)(hc:CfOk H){thread addr size a e:Int}(hr:ReaR H thread addr size H' a e)(hu:∀b,ZJ H addr=some b->0<=b/\b<=1000000000){R:Int->Int->Hp->Prop}
 (hR:∀σ' ts',Ext F U σ'->HH σ' (Grow F U) {L with ts:=ts'} H'->R a e σ'):YR.c (some ⟨L.p,0,none⟩) thread addr size U R:=by
 refine YR.o ?_;unfold YR.v;refine nw (cs:=[.int .i64 thread]) λv hz e0 hb=>?_;have K1:=(HK.start h).box e0 hz;refine Wds K1.h hc hb (λhf=>by have:=hf.2;omega) λv1 e1=>?_;have K2:=K1.fr e1;have same:∀{w:Hp} {P B:Rg},HK F U B w P L H->H'=H->R a e w:=λK he=>hR _ L.ts K.e (by rw[he];exact K.fin h);have pass:Qp H thread=0->∀{J:Bool->Hp->Prop},J (decide (size<0\/16384<size)) v1->(If (Qp H thread != 0) (R 0 (Qp H thread) v1) (If (decide (size<0)) (J true v1) (J (decide (size>16384)) v1))):=λh0 J hJ=>by
  refine ifF (by rw[h0];rfl) (ifD (λh1=>?_) λh1=>?_)
  ·rw[zI (by omega:size<0\/16384<size)]at hJ;exact hJ
  ·by_cases h2:size>16384
   ·rw[zI h2];rw[zI (by omega:size<0\/16384<size)]at hJ;exact hJ
   ·rw[zH h2];rw[zH (by omega)]at hJ;exact hJ
 cases hr with
 | notReady h0=>exact ifT (by simpa using h0) (same K2 rfl)
 | bad h0 hs=>
  refine ifF (by rw[h0];rfl) (JnB.intro ?_);have:=pass h0 (J:=λr w=>If r (R 0 1 w) True) (by rw[zI hs];exact same K2 rfl);refine ifD (λh1=>ifT rfl (same K2 rfl)) λh1=>ifDT (by omega) (same K2 rfl)
 | none h0 ha hs=>
  subst ha;subst hs;exact ifF (by rw[h0];rfl) (JnB.intro (ifDF (by omega) (ifDF (by omega) (ifT rfl (ifT rfl (same K2 rfl))))))
 | first h0 ha hs1 hs2 hw=>
  subst ha;refine ifF (by rw[h0];rfl) (JnB.intro (ifDF (by omega) (ifDF (by omega) (ifT rfl (ifF (by simp only[zAA];omega) ?_)))));refine KR hso K2.h hc.2.2 hw λv3 ts3 e3 h3=>?_;have K3:=K2.to e3 h3 λb _ hb=>hb;exact hR v3 ts3 K3.e (K3.fin h)
 | wild h0 ha hs1 hs2 hn=>
  refine ifF (by rw[h0];rfl) (JnB.intro (ifDF (by omega) (ifDF (by omega) (ifF (by simpa using ha) ?_))));refine QG K2.h addr λv4 e4=>?_;rw[hn];exact ifT rfl (same (K2.fr e4) rfl)
 | free h0 ha hs hn hw=>
  subst hs;refine ifF (by rw[h0];rfl) (JnB.intro (ifDF (by omega) (ifDF (by omega) (ifF (by simpa using ha) ?_))));refine QG K2.h addr λv4 e4=>?_;rw[hn];have K4:=K2.fr e4;refine ifF rfl (ifT rfl (WbK hso K4.h hc.2.2 hw λv5 ts5 e5 h5=>?_));have K5:=K4.to e5 h5 λb _ hb=>hb;exact hR v5 ts5 K5.e (K5.fin h)
 | @same u h0 ha hs1 hs2 hn hg=>
  have hub:=hu _ hn;have hgl:=Wb9 hc.2.2 size 8 hs2;refine ifF (by rw[h0];rfl) (JnB.intro (ifDF (by omega) (ifDF (by omega) (ifF (by simpa using ha) ?_))));refine QG K2.h addr λv4 e4=>?_;rw[hn];have K4:=K2.fr e4;refine ifF rfl (ifF (by simp only[zAA];omega) (WbN K4.h hc size 8 λv6 e6=>?_));have K6:=K4.fr e6;refine QD (λr w=>w=v6/\r=true) (λr w ⟨hw,hr⟩=>by subst hw;exact ifT hr (same K6 rfl)) λJ1 hJ1=>ifDT hg.1 (ar (by omega) (by omega) (hJ1 _ _ ⟨rfl,zI hg.2⟩))
 | @full H' a' e' u h0 ha hs1 hs2 hn hg hw hne=>
  have hub:=hu _ hn;have hgl:=Wb9 hc.2.2 size 8 hs2;refine ifF (by rw[h0];rfl) (JnB.intro (ifDF (by omega) (ifDF (by omega) (ifF (by simpa using ha) ?_))));refine QG K2.h addr λv4 e4=>?_;rw[hn];have K4:=K2.fr e4;refine ifF rfl (ifF (by simp only[zAA];omega) (WbN K4.h hc size 8 λv6 e6=>?_));have K6:=K4.fr e6;refine QD (λr w=>w=v6/\r=false) (λr w ⟨hw',hr⟩=>?_) λJ1 hJ1=>ifD (λh1=>ar (by omega) (by omega) (hJ1 _ _ ⟨rfl,zH λh2=>hg ⟨h1,h2⟩⟩)) λh1=>hJ1 _ _ ⟨rfl,rfl⟩;subst hw';refine ifF hr (KR hso K6.h hc.2.2 hw λv8 ts8 e8 h8=>?_);have K8:=K6.to e8 h8 λb _ hb=>hb;exact ifT (by simpa using hne) (hR v8 ts8 K8.e (K8.fin h))
 | @moved H1 H3 a' u u2 a3 e3' h0 ha hs1 hs2 hn hg hw hn2 hu0 hu2 hbd hw3=>
  have hub:=hu _ hn;have hgl:=Wb9 hc.2.2 size 8 hs2;refine ifF (by rw[h0];rfl) (JnB.intro (ifDF (by omega) (ifDF (by omega) (ifF (by simpa using ha) ?_))));refine QG K2.h addr λv4 e4=>?_;rw[hn];have K4:=K2.fr e4;refine ifF rfl (ifF (by simp only[zAA];omega) (WbN K4.h hc size 8 λv6 e6=>?_));have K6:=K4.fr e6;refine QD (λr w=>w=v6/\r=false) (λr w ⟨hw',hr⟩=>?_) λJ1 hJ1=>ifD (λh1=>ar (by omega) (by omega) (hJ1 _ _ ⟨rfl,zH λh2=>hg ⟨h1,h2⟩⟩)) λh1=>hJ1 _ _ ⟨rfl,rfl⟩;subst hw';refine ifF hr (KR hso K6.h hc.2.2 hw λv8 ts8 e8 h8=>?_);have K8:=K6.to e8 h8 λb _ hb=>hb;refine ifF rfl (QG K8.h a λv9 e9=>?_);have K9:=K8.fr e9;rw[hn2];simp only[zBH];have hmin:(if u2<u then u2 else u)=min u2 u:=by omega
  rw[hmin];refine Wfd _ (by omega) (by omega) ?_;have hdiv:(min u2 u)/8=(((min u2 u).toNat/8:Nat):Int):=by omega
  rw[hdiv];refine WkS K9.h a addr _ (by omega) (by omega) (by omega) (by omega) (by omega) λv11 e11 h11=>?_;have K11:=K9.to e11 h11 λb _ hb=>hb;have hk1:=VJ hw;refine WbK hso K11.h (by show TbOk H1.tb;rw[hk1.1];exact hc.2.2) hw3 λv12 ts12 e12 h12=>?_;have K12:=K11.to e12 h12 λb _ hb=>hb;exact hR v12 ts12 K12.e (K12.fin h)
end Go.Ar
namespace Go.Ar
open Go.Vc (mget mset mdel)
variable {H H':Hw}{held:List Pc}{s0:Sp}{t k j:Nat}{g:Th}{A:AR}{c:Cls}
theorem Ky (f:Th->Th)(hj:j≠t):(H.setT t f).ths[j]?=H.ths[j]? := by
 simp[Hw.setT,zCU,Ne.symm hj]
theorem Wkt (x:Int)(hj:j≠t):(putH H t k x).ths[j]?=H.ths[j]? := by
 unfold putH QM;simp only;split<;>split<;>simp only[Ky _ hj]
theorem Wha (p:Ph)(hj:j≠t):(Wt H t p).1.ths[j]?=H.ths[j]? := by
 cases p with
 | take k=>simp only[Wt];split<;>simp only[VC,Ky _ hj]
 | transfer k w=>
  simp only[Wt];split
  ·split
   ·unfold QM;rw[Ky _ hj];rfl
   ·rfl
  ·rfl
 | central k w=>
  simp only[Wt];split
  ·rfl
  ·unfold QM;rw[Ky _ hj];rfl
 | grow k w=>simp only[Wt];split<;>rfl
 | fill=>simp only[Wt];split<;>simp only[VC,Ky _ hj]
 | large m=>simp only[Wt];split<;>rfl
 | find x=>
  simp only[Wt,U0];split
  ·rfl
  ·split
   ·rfl
   ·unfold QM;rw[Ky _ hj]
 | put k x=>exact Wkt x hj
 | back=>
  simp only[Wt];split
  ·rw[G6,Ky _ hj]
  ·rfl
 | give s a=>simp only[Wt];split<;>rfl
 | drain=>simp only[Wt,Ky _ hj]
theorem Up (p:Ph)(hj:j≠t):(QC H t p).ths[j]?=H.ths[j]? := by
 unfold QC setPh;rw[Ky _ hj,Wha p hj]
def phAt (H:Hw)(j:Nat):Option Ph:=(H.ths[j]?).bind (·.ph)
def Wdl (H H':Hw)(t:Nat):Prop:=phAt H' t=none/\∀j,j≠t->phAt H' j=phAt H j
theorem Wmf (h:HI H held s0)(hg:H.ths[t]?=some g){p:Ph}(hp:g.ph=some p)(hf:¬isF p):∃cl sz,Rq H.tb g p cl sz:=by
 have hth:=(h.th g (h.mem hg)).ph;unfold PhI at hth;rw[hp]at hth;cases p with
 | take k=>obtain⟨c,hc,_⟩:=h.cls hth.2;exact⟨_,_,rfl,c,hc,rfl⟩
 | transfer k w=>obtain⟨c,hc,_⟩:=h.cls hth.2.1;exact⟨_,_,rfl,c,hc,rfl⟩
 | central k w=>obtain⟨c,hc,_⟩:=h.cls hth.2.1;exact⟨_,_,rfl,c,hc,rfl⟩
 | grow k w=>obtain⟨c,hc,_⟩:=h.cls hth.2.1;exact⟨_,_,rfl,c,hc,rfl⟩
 | fill=>
  obtain⟨k,x,xs,hh,hk,_⟩:=hth;obtain⟨c,hc,_⟩:=h.cls hk;exact⟨_,_,k,_,[],c,hh,rfl,hc,rfl⟩
 | large m=>exact⟨_,_,rfl,rfl⟩
 | find x=>exact(hf trivial).elim
 | put k x=>exact(hf trivial).elim
 | back=>exact(hf trivial).elim
 | give s a=>exact(hf trivial).elim
 | drain=>exact(hf trivial).elim
theorem st_M (h:HI H held s0)(hg:H.ths[t]?=some g){p:Ph}(hp:g.ph=some p){cl sz:Int}(hr:Rq H.tb g p cl sz):StI H t p/\EfM H t p cl sz:=by
 cases p with
 | take k=>exact Wme h hg hp hr
 | transfer k w=>exact Weh h hg hp hr
 | central k w=>exact WfY h hg hp hr
 | grow k w=>exact Wlv h hg hp hr
 | fill=>exact Wmj h hg hp hr
 | large m=>exact Wkn h hg hp hr
 | find x=>exact hr.elim
 | put k x=>exact hr.elim
 | back=>exact hr.elim
 | give s a=>exact hr.elim
 | drain=>exact hr.elim
theorem st_F (h:HI H held s0)(hg:H.ths[t]?=some g){p:Ph}(hp:g.ph=some p)(hf:isF p):StI H t p/\EfF H t g p:=by
 cases p with
 | take k=>exact hf.elim
 | transfer k w=>exact hf.elim
 | central k w=>exact hf.elim
 | grow k w=>exact hf.elim
 | fill=>exact hf.elim
 | large m=>exact hf.elim
 | find x=>exact Wmy h hg hp
 | put k x=>exact Wng h hg hp
 | back=>exact Wl6 h hg hp
 | give s a=>exact Wmu h hg hp
 | drain=>exact WjK h hg hp
open Classical in
theorem HI.stp (h:HI H held s0)(hg:H.ths[t]?=some g){p:Ph}(hp:g.ph=some p):StI H t p:=by
 by_cases hf:isF p
 ·exact(st_F h hg hp hf).1
 ·obtain⟨cl,sz,hr⟩:=Wmf h hg hp hf;exact(st_M h hg hp hr).1
theorem U4 {p:Ph}(ht:t<H.ths.length):∃g',(QC H t p).ths[t]?=some g'/\g'.ph=(Wt H t p).2.1:=WeK ht
theorem Wnx {cl sz:Int}:∀(n:Nat) {H:Hw} {held:List Pc} {s0:Sp} {g:Th} {p:Ph},HI H held s0->H.ths[t]?=some g->g.ph=some p->Rq H.tb g p cl sz->WaK H t p<=n →
 ∃m H' a e,RunN m H t p H' a e/\(∃held s0,HI H' held s0)/\KS H.sp H'.sp/\Wdl H H' t/\((e≠0/\a=0/\H'.live=H.live)\/(e=0/\mget H.live a=none/\H'.live=mset H.live a (a,sz,cl,Yk H'.ars a)))
 | n,H,held,s0,g,p,h,hg,hp,hr,hn=>by
  have ht:=(gSi.1 hg).1;obtain⟨s,ef⟩:=st_M h hg hp hr;have hps:(Wt H t p).2.1=none->Wdl H (QC H t p) t:=λhx=>by
   obtain⟨g',hg',hp'⟩:=U4 (p:=p) ht;exact⟨by unfold phAt;rw[hg'];exact hp'.trans hx,λj hj=>by unfold phAt;rw[Up p hj]⟩
  rcases ef with⟨p',g',e1,e2,e3,e4,e5⟩|⟨e1,e2,e3,e4⟩|⟨e1,e2,e3,e4⟩
  ·obtain⟨held',s0',h'⟩:=s.hi;obtain⟨g2,hg2,hp2⟩:=U4 (p:=p) ht;rw[e3]at hg2;cases hg2;have htb:(QC H t p).tb=H.tb:=(Uy H t p).1;have hn':WaK (QC H t p) t p'<n:=by omega
   obtain⟨m,H',a,e,r,hi,ks,ps,res⟩:=Wnx (WaK (QC H t p) t p') h' e3 (hp2.trans e1) (by rw[htb];exact e4) (zC _);refine⟨m+1,H',a,e,.next s.ok e1 r,hi,s.ks.trans ks,⟨ps.1,λj hj=>(ps.2 j hj).trans (by unfold phAt;rw[Up p hj])⟩,?_⟩;rw[e2]at res;exact res
  ·exact⟨1,_,_,_,.done s.ok e1,s.hi,s.ks,hps e1,.inl ⟨e2,e3,e4⟩⟩
  ·exact⟨1,_,_,_,.done s.ok e1,s.hi,s.ks,hps e1,.inr ⟨e2,e3,e4⟩⟩
termination_by n=>n
theorem WnQ:∀(n:Nat) {H:Hw} {held:List Pc} {s0:Sp} {g:Th} {p:Ph},HI H held s0->H.ths[t]?=some g->g.ph=some p->isF p->WaX g p<=n →
 ∃m H' e,RunN m H t p H' 0 e/\(∃held s0,HI H' held s0)/\KS H.sp H'.sp/\Wdl H H' t/\((∀x,p≠.find x)->e=0/\H'.live=H.live) ∧
  (∀x,p=.find x->(mget H.live x=none->e≠0/\H'.live=H.live)/\(∀b,mget H.live x=some b->e=0/\H'.live=mdel H.live x))
 | n,H,held,s0,g,p,h,hg,hp,hf,hn=>by
  have ht:=(gSi.1 hg).1;obtain⟨s,e0,ef,el,efi⟩:=st_F h hg hp hf;rcases ef with⟨p',g',e1,e2,e3,e4,e5⟩|e1
  ·obtain⟨held',s0',h'⟩:=s.hi;obtain⟨g2,hg2,hp2⟩:=U4 (p:=p) ht;rw[e4]at hg2;cases hg2;have hn':WaX g' p'<n:=by omega
   obtain⟨m,H',e,r,hi,ks,ps,res,_⟩:=WnQ (WaX g' p') h' e4 (hp2.trans e1) e2 (zC _);obtain⟨r1,r2⟩:=res e3;refine⟨m+1,H',e,.next s.ok e1 r,hi,s.ks.trans ks,⟨ps.1,λj hj=>(ps.2 j hj).trans (by unfold phAt;rw[Up p hj])⟩,λhx=>⟨r1,r2.trans (el hx).2⟩,λx hx=>⟨λhm=>?_,λb hb=>⟨r1,r2.trans ((efi x hx).2 b hb).2⟩⟩⟩;have:=((efi x hx).1 hm).1;rw[e1]at this;cases this
  ·have hps:Wdl H (QC H t p) t:=by
    obtain⟨g',hg',hp'⟩:=U4 (p:=p) ht;exact⟨by unfold phAt;rw[hg'];exact hp'.trans e1,λj hj=>by unfold phAt;rw[Up p hj]⟩
   have r:=RunN.done (H:=H) (t:=t) s.ok e1;rw[e0]at r;exact⟨1,_,_,r,s.hi,s.ks,hps,el,λx hx=>⟨λhm=>((efi x hx).1 hm).2,(efi x hx).2⟩⟩
termination_by n=>n
structure OpOk (H H':Hw):Prop where
 hi:∃held s0,HI H' held s0
 ks:KS H.sp H'.sp
 kp:Z3 H' H
 ph:∀j,phAt H' j=phAt H j
theorem OpOk.refl (h:HI H held s0):OpOk H H:=⟨⟨held,s0,h⟩,KS.refl _,Z3.refl _,λ_=>rfl⟩
theorem OpOk.trans {H1 H2 H3:Hw}(a:OpOk H1 H2)(b:OpOk H2 H3):OpOk H1 H3:=⟨b.hi,a.ks.trans b.ks,a.kp.trans b.kp,λj=>(b.ph j).trans (a.ph j)⟩
theorem Gw {tb:List Cls}{kind size align addr:Int}{p:Ph}(h:reqH tb kind size align addr=some p)(hx:I63 addr)(hh:g.hands=[]):PhI tb.length {g with ph:=some p}:=by
 unfold reqH at h;split at h
 ·split at h
  ·split at h
   ·split at h
    ·rename_i k hk;cases h;exact⟨hh,Wca hk⟩
    ·cases h;exact⟨hh,by omega,by omega⟩
   ·cases h
  ·cases h
 ·split at h
  ·cases h;exact⟨hh,hx⟩
  ·split at h
   ·cases h;exact hh
   ·cases h
theorem HI.setPh (h:HI H held s0)(hg:H.ths[t]?=some g)(hn:g.ph=none){p:Ph}(hp:PhI H.tb.length {g with ph:=some p})(hq:∀s a,p≠.give s a):HI (setPh H t (some p)) held s0:=by
 have hth:=h.th g (h.mem hg);have e:Go.Ar.setPh H t (some p) = {H with ths:=H.ths.set t {g with ph:=some p}}:=Zv hg _;rw[e];refine h.updT hg (live':=H.live) (λk' x=>?_) h.lk (λe' he=>.inl he) (λs a hp=>by cases hp;exact(hq s a rfl).elim) ⟨hth.ll,hth.lo,hth.hb,hth.hl,hp⟩;unfold cnT;rw[hn];have:cnP (some p) k' x=0:=by
  cases p<;>first|rfl|exact(hq _ _ rfl).elim
 simp only[this];simp only[cnP]
theorem Uz (h:HI H held s0)(hg:H.ths[t]?=some g)(hn:g.ph=none):g.hands=[]:=by
 have:=(h.th g (h.mem hg)).ph;unfold PhI at this;rw[hn]at this;exact this
theorem Vp (H:Hw)(thread kind size align addr:Int):(∃e,Kr H thread kind size align addr=.inl e/\e≠0)\/∃(t:Nat) (p:Ph) (g:Th),thread=(t:Int)/\H.ths[t]?=some g/\g.ph=none/\reqH H.tb kind size align addr=some p/\Kr H thread kind size align addr=.inr (t,p):=by
 unfold Kr;split
 ·split
  ·split
   ·split
    ·rename_i hth _ g hg hn _ p hp;exact .inr ⟨thread.toNat,p,g,by omega,hg,hn,hp,rfl⟩
    ·exact .inl ⟨1,rfl,by decide⟩
   ·exact .inl ⟨5,rfl,by decide⟩
  ·exact .inl ⟨1,rfl,by decide⟩
 ·exact .inl ⟨1,rfl,by decide⟩
theorem Wbl (hg:H.ths[t]?=some g)(p:Option Ph)(hj:j≠t):phAt (setPh H t p) j=phAt H j:=by
 unfold phAt setPh;rw[Ky _ hj]
theorem WnB (hg:H.ths[t]?=some g)(hn:g.ph=none){p:Ph}(ps:Wdl (setPh H t (some p)) H' t):∀j,phAt H' j=phAt H j:=λj=>by
 by_cases hj:j=t
 ·subst hj;rw[ps.1];unfold phAt;rw[hg];exact hn.symm
 ·rw[ps.2 j hj,Wbl hg _ hj]
def MalE (H:Hw)(size align:Int)(H':Hw)(a e:Int):Prop:=(e≠0/\a=0/\H'.live=H.live) ∨
 (e=0/\mget H.live a=none/\(1<=size/\size<=16384/\KI size align=true)/\∃cl,H'.live=mset H.live a (a,(Vj H.tb size align).1,cl,Yk H'.ars a)/\((∃k:Nat,cl=k/\clsV H.tb size align=some k)\/cl = -1/\clsV H.tb size align=none))
theorem Wdj (h:HI H held s0)(thread size align:Int):∃H' a e,Va H thread 0 size align 0 H' a e/\OpOk H H'/\MalE H size align H' a e:=by
 rcases Vp H thread 0 size align 0 with⟨e,hs,hne⟩|⟨t,p,g,rfl,hg,hn,hq,hs⟩
 ·exact⟨H,0,e,.inl ⟨hs,hne,rfl,rfl⟩,OpOk.refl h,.inl ⟨hne,rfl,rfl⟩⟩
 ·have hh:=Uz h hg hn;have hpi:=Gw (g:=g) hq (by unfold I63;decide) hh;unfold reqH at hq;rw[zB rfl]at hq;split at hq
  ·rename_i hsz;split at hq
   ·rename_i hok;have hgood:Vj H.tb size align=(match clsV H.tb size align with
     | some k=>((H.tb.getD k ⟨8,1,1⟩).size:Int)
     | none=>Wag size,0):=by
     unfold Vj;rw[zB ⟨hsz.2,hok⟩]
     first|done | (cases clsV H.tb size align<;>rfl)
    obtain⟨cl,hpe,hcl⟩:∃cl,Rq H.tb {g with ph:=some p} p cl (Vj H.tb size align).1/\((∃k:Nat,cl=k/\clsV H.tb size align=some k)\/cl = -1/\clsV H.tb size align=none):=by
     cases hcv:clsV H.tb size align with
     | some k=>
      rw[hcv]at hq hgood;cases hq;have hkl:=Wca hcv;have hc:H.tb[k]?=some H.tb[k]:=gGe hkl;refine⟨k,⟨rfl,H.tb[k],hc,?_⟩,.inl ⟨k,rfl,rfl⟩⟩;rw[hgood];simp only;rw[zL,hc];rfl
     | none=>
      rw[hcv]at hq hgood;cases hq;refine⟨-1,⟨rfl,?_⟩,.inr ⟨rfl,rfl⟩⟩;rw[hgood];simp only;unfold Wag;omega
    have hnp:∀s a,p≠.give s a:=λs a e=>by subst e;exact hpe.elim
    have h1:=h.setPh hg hn hpi hnp;have hg1:(Go.Ar.setPh H t (some p)).ths[t]?=some {g with ph:=some p}:=by
     have ht:=(gSi.1 hg).1;have e:Go.Ar.setPh H t (some p) = {H with ths:=H.ths.set t {g with ph:=some p}}:=Zv hg _;rw[e];simp[ht]
    obtain⟨m,H',a,e,r,hi,ks,ps,res⟩:=Wnx _ h1 hg1 rfl hpe (zC _);refine⟨H',a,e,.inr ⟨t,p,m,hs,r⟩,⟨hi,ks,(Q2 _ _ _).trans (Wb4 r),WnB hg hn ps⟩,?_⟩;rcases res with⟨r1,r2,r3⟩|⟨r1,r2,r3⟩
    ·exact .inl ⟨r1,r2,r3⟩
    ·exact .inr ⟨r1,r2,⟨hsz.1,hsz.2,hok⟩,cl,r3,hcl⟩
   ·cases hq
  ·cases hq
def FreE (H:Hw)(thread addr:Int)(H':Hw)(e:Int):Prop:=
 (e≠0/\H'=H/\Kr H thread 1 0 0 addr=.inl e)\/((∃p,Kr H thread 1 0 0 addr=.inr p)/\mget H.live addr=none/\e≠0/\H'.live=H.live)\/((∃p,Kr H thread 1 0 0 addr=.inr p)/\∃b,mget H.live addr=some b/\e=0/\H'.live=mdel H.live addr)
theorem Wk0 (h:HI H held s0)(hg:H.ths[t]?=some g)(hn:g.ph=none){p:Ph}(hp:PhI H.tb.length {g with ph:=some p})(hf:isF p)(hq:∀s a,p≠.give s a):∃m H' e,RunN m (setPh H t (some p)) t p H' 0 e/\OpOk H H'/\((∀x,p≠.find x)->e=0/\H'.live=H.live) ∧
 (∀x,p=.find x->(mget H.live x=none->e≠0/\H'.live=H.live)/\(∀b,mget H.live x=some b->e=0/\H'.live=mdel H.live x)):=by
 have h1:=h.setPh hg hn hp hq;have hg1:(Go.Ar.setPh H t (some p)).ths[t]?=some {g with ph:=some p}:=by
  have ht:=(gSi.1 hg).1;have e:Go.Ar.setPh H t (some p) = {H with ths:=H.ths.set t {g with ph:=some p}}:=Zv hg _;rw[e];simp[ht]
 obtain⟨m,H',e,r,hi,ks,ps,r1,r2⟩:=WnQ _ h1 hg1 rfl hf (zC _);exact⟨m,H',e,r,⟨hi,ks,(Q2 _ _ _).trans (Wb4 r),WnB hg hn ps⟩,r1,r2⟩
theorem Wgb (h:HI H held s0)(thread addr:Int)(hx:I63 addr):∃H' e,Va H thread 1 0 0 addr H' 0 e/\OpOk H H'/\FreE H thread addr H' e:=by
 rcases Vp H thread 1 0 0 addr with⟨e,hs,hne⟩|⟨t,p,g,rfl,hg,hn,hq,hs⟩
 ·exact⟨H,e,.inl ⟨hs,hne,rfl,rfl⟩,OpOk.refl h,.inl ⟨hne,rfl,hs⟩⟩
 ·have hpi:=Gw (g:=g) hq hx (Uz h hg hn);have hp:p=.find addr:=by unfold reqH at hq;simp at hq;exact hq.symm
  subst hp;obtain⟨m,H',e,r,op,_,r2⟩:=Wk0 h hg hn hpi trivial (λs a e=>by cases e);refine⟨H',e,.inr ⟨t,_,m,hs,r⟩,op,?_⟩;cases hm:mget H.live addr with
  | none=>exact .inr (.inl ⟨⟨_,hs⟩,hm,(r2 addr rfl).1 hm⟩)
  | some b=>exact .inr (.inr ⟨⟨_,hs⟩,b,hm,(r2 addr rfl).2 b hm⟩)
theorem WdG (h:HI H held s0)(thread:Int):∃H' e,Va H thread 2 0 0 0 H' 0 e/\OpOk H H'/\H'.live=H.live:=by
 rcases Vp H thread 2 0 0 0 with⟨e,hs,hne⟩|⟨t,p,g,rfl,hg,hn,hq,hs⟩
 ·exact⟨H,e,.inl ⟨hs,hne,rfl,rfl⟩,OpOk.refl h,rfl⟩
 ·have hpi:=Gw (g:=g) hq (by unfold I63;decide) (Uz h hg hn);have hp:p=.drain:=by unfold reqH at hq;simp at hq;exact hq.symm
  subst hp;obtain⟨m,H',e,r,op,r1,_⟩:=Wk0 h hg hn hpi trivial (λs a e=>by cases e);exact⟨H',e,.inr ⟨t,_,m,hs,r⟩,op,(r1 λx e=>by cases e).2⟩
end Go.Ar
namespace Go.Ar
open Go Go.Vc Go.Proofs
variable {U u w w':Hp}{F B P Q:Rg}{L:LayH}{H H':Hw}{t n k:Nat}{A:AR}{Y:Lay}
theorem Fr.refl (A:AR):Fr A A:=⟨rfl,rfl,rfl⟩
theorem Fr.trans {A B C:AR}(h:Fr B A)(k:Fr C B):Fr C A:=⟨k.1.trans h.1,k.2.1.trans h.2.1,k.2.2.trans h.2.2⟩
theorem WdW {α:Type}(f:AR×Sp->α->AR×Sp)(hf:∀p x,Fr (f p x).1 p.1):∀(l:List α) (p:AR×Sp),Fr (l.foldl f p).1 p.1
 | [],p=>Fr.refl _
 | x::l,p=>(hf p x).trans (WdW f hf l (f p x))
theorem Wit (A:AR)(sp:Sp):Fr (trimS A sp).1 A:=WdW Ve (λp x=>⟨rfl,rfl,rfl⟩) _ _
theorem WkP (A:AR):Fr (YB A) A:=⟨(Vz _ A).1,(Vz _ A).2.1,(Vz _ A).2.2.1⟩
theorem Wli (A:AR)(sp:Sp)(want:Int):Fr (relS A sp want).1 A:=by
 unfold relS;split
 ·exact Fr.refl A
 ·exact(WkP A).trans (WdW rel1 (λp x=>⟨rfl,rfl,rfl⟩) _ _)
theorem WiA (h:HH U F L H)(hk:H.ars[k]?=some A)(hy:L.ys[k]?=some Y){R:Int->Hp->Prop}
 (hR:∀σ',Ext F U σ'->HH σ' (Grow F U) L {H.setA k (trimS A H.sp).1 with sp:=(trimS A H.sp).2}->R ((WfG A:Nat):Int) σ'):Ye.c (some ⟨Y.p,0,none⟩) U R:=by
 obtain⟨Y',G,D,hy',_,hW,hput⟩:=h.stepAS hk;rw[hy]at hy';cases hy';refine WjV hW λσ' e h'=>?_;have htr:traT (trimS A H.sp).1 Y=traT A Y:=(Wit A H.sp).traT Y;obtain⟨e1,h1⟩:=hput σ' _ _ (Cut G U) (Cut D U) (Wit A H.sp).1 e ⟨λb hb=>.inl hb.1,λb hb=>hb.1⟩ (by rw[htr];exact h');exact hR σ' e1 h1
theorem Wc2 (h:HH U F L H)(hk:H.ars[k]?=some A)(hy:L.ys[k]?=some Y)(want:Int)(h12:(Vw (YB A).st).length<=12){R:Int->Int->Hp->Prop}
 (hR:∀σ',Ext F U σ'->HH σ' (Grow F U) L {H.setA k (relS A H.sp want).1 with sp:=(relS A H.sp want).2}->R ((relV A want:Nat):Int) (relE want) σ'):Xl.c (some ⟨Y.p,0,none⟩) want U R:=by
 obtain⟨Y',G,D,hy',_,hW,hput⟩:=h.stepAS hk;rw[hy]at hy';cases hy';refine Wep hW want h12 λσ' G' D' hf e h'=>?_;have htr:traT (relS A H.sp want).1 Y=traT A Y:=(Wli A H.sp want).traT Y;obtain⟨e1,h1⟩:=hput σ' _ _ G' D' (Wli A H.sp want).1 e hf (by rw[htr];exact h');exact hR σ' e1 h1
def QB (H:Hw)(n:Nat):Hw×Nat:=(List.range n).foldl (λ(p:Hw×Nat) k=>match p.1.ars[k]? with
 | some A=>({p.1.setA k (trimS A p.1.sp).1 with sp:=(trimS A p.1.sp).2},p.2+WfG A)
 | none=>p) (H,0)
theorem UR (n:Nat):QB H (n+1)=(match (QB H n).1.ars[n]? with
 | some A=>({(QB H n).1.setA n (trimS A (QB H n).1.sp).1 with sp:=(trimS A (QB H n).1.sp).2},(QB H n).2+WfG A)
 | none=>QB H n):=by
 unfold QB;rw[zr,zv];rfl
theorem Wdy (H:Hw)(n:Nat):Z3 (QB H n).1 H:=by
 induction n with
 | zero=>exact Z3.refl H
 | succ n ih=>
  rw[UR];split
  ·exact ih.trans (Qc _ _ _ _)
  ·exact ih
theorem WjD (h:HH U F L H)(hb:∀n,n<=H.ars.length->(QB H n).2<=1000000){R:Int->Hp->Prop}(hR:∀σ',Ext F U σ'->HH σ' (Grow F U) L (QB H H.ars.length).1->R (((QB H H.ars.length).2:Nat):Int) σ'):Zm.c (some ⟨L.p,0,none⟩) U R:=by
 refine Zm.o ?_;unfold Zm.v;refine Kh h (ifF rfl (nilP (h.hd.rS rfl ?_)));have hal:=h.arowL;have ha2:=h.s.a2;refine VO (a:=.i .i64) (bb:=.i .i64) (λ(x z:Int) w=>∃(j:Nat) (B P:Rg),z=(j:Int)/\x=((QB H j).2:Int)/\j<=H.ars.length/\HK F U B w P L (QB H j).1) (λ_ z _=>H.ars.length-z.toNat) ⟨0,_,_,rfl,rfl,by omega,HK.start h⟩ ?_;rintro(x:Int) (z:Int) w ⟨j,B,P,rfl,rfl,hj,K⟩;refine ifD (λhlt=>?_) λhge=>?_
 ·simp only at hlt;have hj':j<H.ars.length:=by omega
  obtain⟨A,hA⟩:∃A,(QB H j).1.ars[j]?=some A:=⟨_,gGe (by rw[(Wdy H j).2.2.2];exact hj')⟩;obtain⟨Y,hY,_,_⟩:=K.h.ar hA;have hsn:=UR (H:=H) j;rw[hA]at hsn;simp only at hsn;have hb1:=hb (j+1) (by omega);refine K.h.rA hY (WiA K.h hA hY λw1 e1 h1=>?_);have K1:=K.to e1 h1 λb _ hb=>hb;have h2:(QB H (j+1)).2=(QB H j).2+WfG A:=by rw[hsn]
  have h3:(QB H (j+1)).1 = {(QB H j).1.setA j (trimS A (QB H j).1.sp).1 with sp:=(trimS A (QB H j).1.sp).2}:=by rw[hsn]
  rw[←h3]at K1;exact arN (m:=(QB H (j+1)).2) (by omega) (by omega) (arN (m:=j+1) (by omega) (by omega) ⟨⟨j+1,_,_,rfl,rfl,by omega,K1⟩,by omega⟩)
 ·have hji:j=H.ars.length:=by simp only at hge;omega
  subst hji;exact hR w K.e (K.fin h)
def Ug (H:Hw)(n:Nat):Hw:=(List.range n).foldl (λ(H:Hw) k=>match H.ars[k]? with
 | some A=>H.setA k (UU A)
 | none=>H) H
theorem US (n:Nat):Ug H (n+1)=(match (Ug H n).ars[n]? with
 | some A=>(Ug H n).setA n (UU A)
 | none=>Ug H n):=by
 unfold Ug;rw[zr,zv];rfl
theorem Wez (H:Hw)(n:Nat):Z3 (Ug H n) H:=by
 induction n with
 | zero=>exact Z3.refl H
 | succ n ih=>
  rw[US];split
  ·exact ih.trans (Qc _ _ _ _)
  ·exact ih
theorem Wj1 (h:HH U F L H)(hI:∀n A,n<H.ars.length->(Ug H n).ars[n]?=some A->TraI A){R:Hp->Prop}(hR:∀σ',Ext F U σ'->HH σ' (Grow F U) L (Ug H H.ars.length)->R σ'):Zk.c (some ⟨L.p,0,none⟩) U R:=by
 refine Zk.o ?_;unfold Zk.v;refine Kh h (ifF rfl (nilP (h.hd.rS rfl ?_)));have hal:=h.arowL;have ha2:=h.s.a2;refine Zx (a:=.i .i64) (λ(z:Int) w=>∃(j:Nat) (B P:Rg),z=(j:Int)/\j<=H.ars.length/\HK F U B w P L (Ug H j)) (λz _=>H.ars.length-z.toNat) ⟨0,_,_,rfl,by omega,HK.start h⟩ ?_;rintro(z:Int) w ⟨j,B,P,rfl,hj,K⟩;refine ifD (λhlt=>?_) λhge=>?_
 ·simp only at hlt;have hj':j<H.ars.length:=by omega
  obtain⟨A,hA⟩:∃A,(Ug H j).ars[j]?=some A:=⟨_,gGe (by rw[(Wez H j).2.2.2];exact hj')⟩;obtain⟨Y,hY,_,_⟩:=K.h.ar hA;have hsn:=US (H:=H) j;rw[hA]at hsn;simp only at hsn;refine K.h.rA hY ?_;obtain⟨G,hG,ha,hput⟩:=K.h.stepA0 hA hY;have hIA:=hI j A hj' hA;refine WjN ha hIA λw1 e1 h1=>?_;obtain⟨e2,h2⟩:=hput w1 (UU A) (GY _ A hIA).1 e1 h1;have K1:=K.to e2 h2 λb _ hb=>hb;rw[←hsn]at K1;exact arN (m:=j+1) (by omega) (by omega) ⟨⟨j+1,_,_,rfl,by omega,K1⟩,by omega⟩
 ·have hji:j=H.ars.length:=by simp only at hge;omega
  subst hji;exact hR w K.e (K.fin h)
def Qx (H:Hw)(want:Int)(n:Nat):Hw×Nat:=(List.range n).foldl (λ(p:Hw×Nat) k=>if want<=(p.2:Int)then p else match p.1.ars[k]? with
 | some A=>({p.1.setA k (relS A p.1.sp (want-p.2)).1 with sp:=(relS A p.1.sp (want-p.2)).2},p.2+relV A (want-p.2))
 | none=>p) (H,0)
theorem Uv (want:Int)(n:Nat):Qx H want (n+1)=(if want<=((Qx H want n).2:Int)then Qx H want n else match (Qx H want n).1.ars[n]? with
 | some A=>({(Qx H want n).1.setA n (relS A (Qx H want n).1.sp (want-(Qx H want n).2)).1 with sp:=(relS A (Qx H want n).1.sp (want-(Qx H want n).2)).2},(Qx H want n).2+relV A (want-(Qx H want n).2))
 | none=>Qx H want n):=by
 unfold Qx;rw[zr,zv];rfl
theorem Wbn {want:Int}{j:Nat}(h:want<=((Qx H want j).2:Int)):∀n,j<=n->Qx H want n=Qx H want j
 | 0,hn=>by rw[show j=0 by omega]
 | n+1,hn=>by
  by_cases e:j=n+1
  ·rw[e]
  ·have ih:=Wbn h n (by omega);rw[Uv,ih,zB h]
theorem Wgl (H:Hw)(want:Int)(n:Nat):Z3 (Qx H want n).1 H:=by
 induction n with
 | zero=>exact Z3.refl H
 | succ n ih=>
  rw[Uv];split
  ·exact ih
  ·split
   ·exact ih.trans (Qc _ _ _ _)
   ·exact ih
theorem WdK (h:HH U F L H)(want:Int)(hw9:want<=9223372036854775807)(h12:∀n A,n<H.ars.length->(Qx H want n).1.ars[n]?=some A->(Vw (YB A).st).length<=12)(hb:∀n,n<=H.ars.length->(Qx H want n).2<=1000000){R:Int->Int->Hp->Prop}
 (h1:want<0->R 0 1 U) (hR:0<=want->∀σ',Ext F U σ'->HH σ' (Grow F U) L (Qx H want H.ars.length).1->R (((Qx H want H.ars.length).2:Nat):Int) 0 σ'):Yp.c (some ⟨L.p,0,none⟩) want U R:=by
 refine Yp.o ?_;unfold Yp.v;refine Kh h (ifF rfl (ifD (λhn=>h1 hn) λhn=>nilP (h.hd.rS rfl ?_)));have hR:=hR (by omega);have hal:=h.arowL;have ha2:=h.s.a2;refine VO (a:=.i .i64) (bb:=.i .i64) (λ(x z:Int) w=>∃(j:Nat) (B P:Rg),z=(j:Int)/\x=((Qx H want j).2:Int)/\j<=H.ars.length/\HK F U B w P L (Qx H want j).1) (λ_ z _=>H.ars.length-z.toNat) ⟨0,_,_,rfl,rfl,by omega,HK.start h⟩ ?_;rintro(x:Int) (z:Int) w ⟨j,B,P,rfl,rfl,hj,K⟩;refine ifD (λhlt=>?_) λhge=>?_
 ·simp only at hlt;have hj':j<H.ars.length:=by omega
  obtain⟨A,hA⟩:∃A,(Qx H want j).1.ars[j]?=some A:=⟨_,gGe (by rw[(Wgl H want j).2.2.2];exact hj')⟩;obtain⟨Y,hY,_,_⟩:=K.h.ar hA;have hb0:=hb j hj;have hb1:=hb (j+1) (by omega);refine K.h.rA hY (ifD (λhen=>?_) λhen=>?_)
  ·rw[Wbn (by omega) H.ars.length hj]at hR;exact hR w K.e (K.fin h)
  ·have hsn:=Uv (H:=H) want j;rw[zA (by omega),hA]at hsn;simp only at hsn;refine ar (by omega) (by omega) (Wc2 K.h hA hY _ (h12 j A hj' hA) λw1 e1 h1=>?_);have K1:=K.to e1 h1 λb _ hb=>hb;have h2:(Qx H want (j+1)).2=(Qx H want j).2+relV A (want-(Qx H want j).2):=by rw[hsn]
   have h3:(Qx H want (j+1)).1 = {(Qx H want j).1.setA j (relS A (Qx H want j).1.sp (want-(Qx H want j).2)).1 with sp:=(relS A (Qx H want j).1.sp (want-(Qx H want j).2)).2}:=by rw[hsn]
   rw[←h3]at K1;exact arN (m:=(Qx H want (j+1)).2) (by omega) (by omega) (arN (m:=j+1) (by omega) (by omega) ⟨⟨j+1,_,_,rfl,rfl,by omega,K1⟩,by omega⟩)
 ·have hji:j=H.ars.length:=by simp only at hge;omega
  subst hji;exact hR w K.e (K.fin h)
end Go.Ar
namespace Go.Ar
variable {A:AR}
theorem Wf2 (h:GA A)(hn:A.n<=208)(hlow:∀p,p<16->A.f p=0):(Vw (YB A).st).length<=12:=by
 obtain⟨o,_,_⟩:=Ui h;have hl:(YB A).st.length=A.n:=by rw[o.ga.pg.len,o.kp.n]
 have h0:∀p,p<16->(YB A).f p=0:=λp hp=>(o.kp.z p).2 (hlow p hp);have hn1:=h.pg.n1;unfold Vw;rw[hl];have e:List.range (A.n/16)=0::(List.range (A.n/16-1)).map Nat.succ:=by
  rw[←zGF];congr 1;omega
 rw[e,zCJ];have hz:cntR (YB A).st (16*0) (16*0+16) 2=0:=(Hk (by omega) (by rw[hl];omega)).2 λp p1 p2 e2=>by
  have:=h0 p (by omega);unfold AR.f at this;omega
 rw[hz];have:¬(decide (0<0)=true):=by simp
 rw[zA this];refine zN (zAZ _ _) ?_;rw[zh,zCH];omega
def newW (tb:List Cls)(n room m:Nat):Wd:=⟨tb,Vi n,List.replicate m (newA n room tb),[]⟩
theorem WlO {n room:Nat}{tb:List Cls}(h1:32<=n)(h2:n<=1024)(h3:n%16=0)(h6:tb.length<=40)(h7:∀c∈tb,c.ok):GA (newA n room tb)/\∀p,(newA n room tb).f p=0:=by
 have hf:∀p,(newA n room tb).f p=0:=λp=>by
  show(List.replicate n 0).getD p 0=0;rw[zL,zAM];split<;>rfl
 have hcen:∀{k:Nat} {ss:List SpA},(List.replicate tb.length ([]:List SpA))[k]?=some ss->ss=[]:=λh=>by
  rw[zAM]at h;split at h<;>simp at h;exact h
 have htra:∀{k:Nat} {t:TrA},(List.replicate tb.length (⟨0,[]⟩:TrA))[k]?=some t->t.bs=[]:=λh=>by
  rw[zAM]at h;split at h<;>simp at h;rw[←h]
 refine⟨⟨⟨by simp[newA],h1,h2,h3,λp=>by rw[hf];omega,λp=>by rw[hf];simp[newA],λp=>by rw[hf];simp[newA,Go.Bu.emptyS],λp=>by rw[hf,hf]⟩,h6,by simp[newA],by simp[newA],λk c ss hc=>?_,λk c ss hc s hs=>?_,λk c ss hc p=>?_,λp=>?_,λp=>.inr (Nat.zero_le _),by simp[newA],by simp[newA],λk t ht=>?_,λk c ss t hc ht=>?_,λk c t hc ht=>?_⟩,hf⟩
 ·have e:=hcen hc.2;subst e;exact⟨h7 c (zD hc.1),by simp,by simp⟩
 ·have e:=hcen hc.2;subst e;simp at hs
 ·have e:=hcen hc.2;subst e;constructor
  ·intro h;cases h
  ·rintro⟨s,hs,_⟩;simp at hs
 ·constructor
  ·intro h;cases h
  ·rintro⟨r,hr,_⟩;simp[newA]at hr
 ·have:=htra ht;rw[this];exact zDC
 ·have:=htra ht;rw[this];simp
 ·have:=htra ht;rw[this];simp
theorem WmF {tb:List Cls}{n room m:Nat}(h1:32<=n)(h2:n<=1024)(h3:n%16=0)(h6:tb.length<=40)(h7:∀c∈tb,c.ok):WI (newW tb n room m):=by
 obtain⟨ga,hf⟩:=WlO (room:=room) h1 h2 h3 h6 h7;have get:∀{k:Nat} {A:AR},(newW tb n room m).ars[k]?=some A->A=newA n room tb:=λ{k A} h=>by
  have h:(List.replicate m (newA n room tb))[k]?=some A:=h;rw[zAM]at h;split at h<;>simp at h;exact h.symm
 have hsp:∀p,gf (Vi n).st p=0:=λp=>by
  show(List.replicate n 0).getD p 0=0;rw[zL,zAM];split<;>rfl
 refine⟨λk A h=>by rw[get h];exact ga,λk A h=>?_,λk A h=>by rw[get h];rfl,λk A h p hp=>by rw[get h];exact hf p,λp hp=>(hp (hsp p)).elim,λp k l A B hA hB h1 h2=>?_,zDC,λp hp=>by simp[newW]at hp,λk A h j y hy=>?_,λk A h r hr=>?_⟩
 ·rw[get h];exact⟨by simp[newW,Vi,newA],λp hp=>(hp (hf p)).elim,λp hp=>by rw[hf p]at hp;omega,λp=>by show gf (Vi n).st p<=2;rw[hsp];omega⟩
 ·rw[get hA]at h1;exact(h1 (hf p)).elim
 ·rw[get h]at hy;obtain⟨c,ss,hc,ht⟩:=hy;have hss:ss=[]:=by
   have h2:=hc.2;simp only[newA]at h2;rw[zAM]at h2;split at h2<;>simp at h2;exact h2
  subst hss;obtain⟨k',s,i,hs,_⟩:=(V7 (ga.cen _ _ _ hc)).1 ht;simp at hs
 ·rw[get h]at hr;simp[newA]at hr
end Go.Ar
namespace Go.Ar
open Go.Vc (mget mset mdel)
variable {H H':Hw}{held:List Pc}{s0:Sp}{t k j:Nat}{g:Th}{A:AR}{c:Cls}
theorem Wn8 {tb:List Cls}{cf:Cf}(h1:32<=cf.pages)(h2:cf.pages<=1024)(h3:cf.pages%16=0)(h4:1<=cf.arenas)(h6:tb.length<=40)(h7:∀c∈tb,c.ok):HI (Ua tb cf) [] (Vi cf.pages):=by
 have wi:=WmF (tb:=tb) (n:=cf.pages) (room:=cf.room) (m:=cf.arenas) h1 h2 h3 h6 h7;have thg:∀g∈(Ua tb cf).ths,g=⟨List.replicate tb.length liN,[],none⟩:=λg hg=>(zES.1 hg).2;have li0:∀k,(List.replicate tb.length liN).getD k liN=liN:=λk=>by
  rw[zL,zAM];split<;>rfl
 refine⟨wi,Sim.refl _,λk x=>?_,zDC,λe he=>by simp[Ua]at he,λg hg s a hp=>?_,λg hg=>?_,h7,?_,?_⟩
 ·have hz:∀(n:Nat) (f:Th->Nat) (g:Th),f g=0->((List.replicate n g).map f).sum=0:=λn f g h=>by
   rw[zDM,h]
   induction n with
   | zero=>rfl
   | succ n ih=>rw[zEH,zAU,ih]
  have h0:cnT ⟨List.replicate tb.length liN,[],none⟩ k x=0:=by
   unfold cnT cnL;split
   ·simp only[li0];rfl
   ·rfl
  have:cnH (Ua tb cf) k x=0:=by
   unfold cnH;show cnV [] k x+((List.replicate cf.threads (⟨List.replicate tb.length liN,[],none⟩:Th)).map λg=>cnT g k x).sum=0;rw[hz _ _ _ h0];rfl
  rw[this,QQ];rintro⟨p,hp,_⟩;simp at hp
 ·rw[thg g hg]at hp;cases hp
 ·rw[thg g hg];refine⟨by simp[Ua],λl hl=>?_,λb hb=>by simp at hb,by simp,by unfold PhI;rfl⟩;rw[(zES.1 hl).2];exact⟨LiOk.nil,by simp[liN]⟩
 ·show 1<=(List.replicate cf.arenas (newA cf.pages cf.room tb)).length;simpa using h4
 ·show(List.replicate cf.pages 0).length=cf.pages;simp
def KL (H H':Hw):Prop:=∀e∈H.live,∀w:Nat,e.1<=((8*w:Nat):Int)->((8*w:Nat):Int)<e.1+e.2.2.1->H'.sp.wd w=H.sp.wd w
theorem HI.wi' (h:HI H held s0):WI ⟨H.tb,s0,H.ars,held⟩:=h.wi
theorem HI.mapped (h:HI H held s0){p:Pc}(hp:p∈held){x:Nat}(h1:p.addr<=x)(h2:x<p.addr+p.size):gf H.sp.st (x/256)≠0:=by
 obtain⟨A,hA,_⟩:=h.wi.hf p hp;have e1:=h.wi.page hp hA h1 h2;have:=(h.wi.ow _ A hA).own (x/256) (by omega);intro hz;exact this ((h.sim.z _).1 hz)
theorem HI.kl (h:HI H held s0)(k:KS H.sp H'.sp):KL H H':=λe he w h1 h2=>by
 obtain⟨_,p,hp,_,_,h3,h4,_⟩:=h.lv e he;have hm:=h.mapped hp (x:=8*w) (by omega) (by omega);exact(k.k _ hm).2 w (by omega)
theorem KL.refl (H:Hw):KL H H:=λ_ _ _ _ _=>rfl
theorem KL.trans {H1 H2 H3:Hw}(a:KL H1 H2)(b:KL H2 H3)(hl:∀e∈H1.live,e∈H2.live):KL H1 H3:=λe he w h1 h2=>(b e (hl e he) w h1 h2).trans (a e he w h1 h2)
structure ArOk (H H':Hw):Prop where
 hi:∃held s0,HI H' held s0
 live:H'.live=H.live
 ths:H'.ths=H.ths
 kp:Z3 H' H
 kl:KL H H'
theorem ArOk.refl (h:HI H held s0):ArOk H H:=⟨⟨_,_,h⟩,rfl,rfl,Z3.refl _,KL.refl _⟩
theorem ArOk.trans {H1 H2 H3:Hw}(a:ArOk H1 H2)(b:ArOk H2 H3):ArOk H1 H3:=⟨b.hi,b.live.trans a.live,b.ths.trans a.ths,a.kp.trans b.kp,a.kl.trans b.kl λe he=>by rw[a.live];exact he⟩
theorem HI.n (h:HI H held s0)(hk:H.ars[k]?=some A):A.n=H.cf.pages:=by
 have:=(h.wi.ow k A hk).l;have h2:=h.sim.l;have h3:=h.sl;simp only at this;omega
theorem HI.few (h:HI H held s0)(h208:H.cf.pages<=208)(hk:H.ars[k]?=some A):(Vw (YB A).st).length<=12:=Wf2 (h.wi.ga k A hk) (by rw[h.n hk];exact h208) (h.wi.low k A hk)
theorem Wnz (h:HI H held s0)(hk:H.ars[k]?=some A){B:AR}{s0' sp':Sp}(wi:WI ⟨H.tb,s0',H.ars.set k B,held⟩)(hw:∀w,B.f (w/32)=1->sp'.wd w=H.sp.wd w)(hoth:∀w,A.f (w/32)=0->B.f (w/32)=0->sp'.wd w=H.sp.wd w):KL H {H.setA k B with sp:=sp'}:=by
 intro e he w h1 h2;obtain⟨_,p,hp,_,_,h3,h4,_⟩:=h.lv e he;obtain⟨C,hC,_⟩:=h.wi.hf p hp;obtain⟨D,hD,_⟩:=wi.hf p hp;have e1:=h.wi.page hp hC (x:=8*w) (by omega) (by omega);have e2:=wi.page hp hD (x:=8*w) (by omega) (by omega);rw[show 8*w/256=w/32 by omega]at e1 e2;have hkl:=(gSi.1 hk).1;by_cases hpk:p.k=k
 ·have hB:(H.ars.set k B)[k]?=some B:=zK hkl;have hD:(H.ars.set k B)[p.k]?=some D:=hD;rw[hpk,hB]at hD;cases hD;exact hw w e2
 ·refine hoth w ?_ ?_
  ·apply Classical.byContradiction;intro hn;exact hpk (h.wi.one (w/32) p.k k C A hC hk (by omega) hn)
  ·have hB:(H.ars.set k B)[k]?=some B:=zK hkl;apply Classical.byContradiction;intro hn;exact hpk (wi.one (w/32) p.k k D B hD hB (by omega) hn)
theorem Wns (h:HI H held s0)(hk:H.ars[k]?=some A)(want:Int):ArOk H {H.setA k (relS A H.sp want).1 with sp:=(relS A H.sp want).2}:=by
 have ga:=h.wi.ga k A hk;obtain⟨e1,e2,e3⟩:=h.sim.relS A want;obtain⟨s,r1,r2,r3⟩:=Wlr ga (h.wi.ow k A hk) want;have wi:=h.wi.stepSame hk s r1 r3 r2;rw[show(Wd.mk H.tb s0 H.ars held).sp=s0 from rfl,←e1]at wi;have hi:=h.updA wi e2 e3 (by simp[Wd.put]) (λ_ _=>Iff.rfl) (λp hp _=>hp);have key:KL H {H.setA k (relS A H.sp want).1 with sp:=(relS A H.sp want).2}:=by
  by_cases h0:want<0
  ·have:relS A H.sp want=(A,H.sp):=by unfold relS;rw[zB h0]
   rw[this];exact λ_ _ _ _ _=>rfl
  ·obtain⟨z,_⟩:=Whb ga (h.wi.ow k A hk) (want:=want) (by omega);have hsw:=Ui ga;have hwd:∀w,¬inR (VS A want) (w/32)->(relS A H.sp want).2.wd w=H.sp.wd w:=λw hw=>by
    rw[e2.w,z.wd w hw,h.sim.w]
   refine Wnz h hk wi (λw hw=>hwd w λhr=>?_) λw ha _=>hwd w λhr=>?_
   ·have:=(z.i _ hr).2.1;rw[e1]at hw;simp only at this;omega
   ·have:=(z.i _ hr).1;have:=(hsw.1.kp.z (w/32)).2 ha;omega
 exact⟨⟨_,_,hi⟩,rfl,rfl,Qc _ _ _ _,key⟩
theorem Wms (h:HI H held s0)(hk:H.ars[k]?=some A):ArOk H {H.setA k (trimS A H.sp).1 with sp:=(trimS A H.sp).2}:=by
 have ga:=h.wi.ga k A hk;obtain⟨e1,e2,e3⟩:=h.sim.trimS A;have z:=WjX ga (h.wi.ow k A hk);have wi:=h.wi.stepSame hk z.st z.runs (λj y=>by unfold TkA Cl;rw[z.st.tb,z.cen]) z.tra;rw[show(Wd.mk H.tb s0 H.ars held).sp=s0 from rfl,←e1]at wi;have hi:=h.updA wi e2 e3 (by simp[Wd.put]) (λ_ _=>Iff.rfl) (λp hp _=>hp);have hwd:∀w,w/32/16∉Kc A.st 0->(trimS A H.sp).2.wd w=H.sp.wd w:=λw hw=>by
  rw[e2.w,z.wd w hw,h.sim.w]
 have key:KL H {H.setA k (trimS A H.sp).1 with sp:=(trimS A H.sp).2}:=by
  refine Wnz h hk wi (λw hw=>hwd w λhr=>?_) λw ha _=>hwd w λhr=>?_
  ·rw[e1,z.f,zB hr]at hw;omega
  ·have:=((Wc6 ga).1 hr).2 (w/32) rfl;omega
 exact⟨⟨_,_,hi⟩,rfl,rfl,Qc _ _ _ _,key⟩
theorem Wmw (h:HI H held s0)(hk:H.ars[k]?=some A):ArOk H (H.setA k (UU A)):=by
 have wi:=h.wi.tick hk;have hi:=h.updA (sp':=H.sp) wi h.sim rfl (by simp[Wd.put]) (WlX _) (λp hp _=>(zG.1 hp).1);exact⟨⟨_,_,hi⟩,rfl,rfl,Qc _ _ _ H.sp,λ_ _ _ _ _=>rfl⟩
theorem WgH (h:HI H held s0)(n:Nat):ArOk H (Ug H n):=by
 induction n with
 | zero=>exact ArOk.refl h
 | succ n ih=>
  rw[US];split
  ·rename_i A hA;obtain⟨held',s0',h'⟩:=ih.hi;exact ih.trans (Wmw h' hA)
  ·exact ih
theorem Wiz (st:List Nat)(k:Nat):(Kc st k).length<=st.length/16:=by
 unfold Kc;exact zN (zAZ _ _) (by simp)
theorem WhK (h:HI H held s0)(n:Nat):ArOk H (QB H n).1/\(QB H n).2<=n*64:=by
 induction n with
 | zero=>exact⟨ArOk.refl h,zC _⟩
 | succ n ih=>
  obtain⟨ih,i2⟩:=ih;rw[UR];split
  ·rename_i A hA;obtain⟨held',s0',h'⟩:=ih.hi;refine⟨ih.trans (Wms h' hA),?_⟩;have ga:=h'.wi.ga n A hA;have h1:=Wiz A.st 0;have h2:=ga.pg.len;have h3:=ga.pg.n2;simp only[WfG];omega
  ·exact⟨ih,by omega⟩
theorem GZ (st:List Nat)(e:Nat):∀(f p:Nat),(QV st e f p).length<=f/\∀r∈QV st e f p,r.2<=e-p
 | 0,p=>⟨by simp[QV],by simp[QV]⟩
 | f+1,p=>by
  unfold QV;split
  ·exact⟨by simp,by simp⟩
  ·split
   ·obtain⟨h1,h2⟩:=GZ st e f (p+1);exact⟨by omega,λr hr=>by have:=h2 r hr;omega⟩
   ·obtain⟨h1,h2⟩:=GZ st e f (p+runL st p (e-p)+1);refine⟨by simp;omega,λr hr=>?_⟩;rcases zR.1 hr with rfl|hr
    ·have:runL st p (e-p)<=e-p:=by
      unfold runL;refine zN (List.Sublist.length_le (List.takeWhile_sublist _)) ?_;rw[zT];omega
     exact this
    ·have:=h2 r hr;omega
theorem WiJ {α:Type}(f:α->Nat)(c:Nat):∀l:List α,(∀x∈l,f x<=c)->(l.map f).sum<=l.length*c
 | [],_=>by simp
 | x::l,h=>by
  have h1:=WiJ f c l λy hy=>h y (by simp[hy]);have h2:=h x (by simp);rw[zW,zAU,zV,zi];omega
theorem WmV (h:GA A)(want:Int):relV A want<=17408:=by
 unfold relV;split
 ·omega
 ·have h1:=(Ui h).1;have hl:(YB A).st.length<=1024:=by rw[h1.ga.pg.len];exact h1.ga.pg.n2
  unfold VS Ha;have hsub:=Wcn want 0 ((ordT (YB A).st).flatMap (KJ (YB A).st));have hrl:∀x,(KJ (YB A).st x).length<=17/\∀r∈KJ (YB A).st x,r.2<=16:=λx=>by
   have:=GZ (YB A).st (16*x+16) 17 (16*x);exact⟨this.1,λr hr=>by have:=this.2 r hr;omega⟩
  have hlen:((ordT (YB A).st).flatMap (KJ (YB A).st)).length<=64*17:=by
   rw[List.length_flatMap];refine zN (WiJ (λx=>(KJ (YB A).st x).length) 17 _ λx _=>(hrl x).1) ?_;have h2:=(Wcz (YB A).st).length_eq;have h3:=zAZ (λh=>decide (0<cntR (YB A).st (16*h) (16*h+16) 2)) (List.range ((YB A).st.length/16));rw[zCH]at h3;have:(ordT (YB A).st).length<=64:=by omega
   omega
  have hle:∀r∈(ordT (YB A).st).flatMap (KJ (YB A).st),r.2<=16:=λr hr=>by
   obtain⟨x,_,hx⟩:=zDB.1 hr;exact(hrl x).2 r hx
  have h4:=WiJ (λr:Nat×Nat=>r.2) 16 (cutW want 0 ((ordT (YB A).st).flatMap (KJ (YB A).st))) λr hr=>hle r (hsub.subset hr);have h5:=hsub.length_le;omega
theorem Wka (h:HI H held s0)(want:Int)(n:Nat):ArOk H (Qx H want n).1/\(Qx H want n).2<=n*17408:=by
 induction n with
 | zero=>exact⟨ArOk.refl h,zC _⟩
 | succ n ih=>
  obtain⟨ih,i2⟩:=ih;rw[Uv];split
  ·exact⟨ih,zN i2 (zAD _ (Nat.le_succ n))⟩
  ·split
   ·rename_i A hA;obtain⟨held',s0',h'⟩:=ih.hi;refine⟨ih.trans (Wns h' hA _),?_⟩;have:=WmV (h'.wi.ga n A hA) (want-((Qx H want n).2:Int));simp only;omega
   ·exact⟨ih,zN i2 (zAD _ (Nat.le_succ n))⟩
theorem WI.wd {W:Wd}(h:WI W)(f:Nat->Int):WI {W with sp:={W.sp with wd:=f}}:=
 ⟨h.ga,λk A hk=>⟨(h.ow k A hk).l,(h.ow k A hk).own,(h.ow k A hk).cl,(h.ow k A hk).le⟩,h.tb,h.low,h.own,h.one,h.hk,h.hf,h.ht,h.hr⟩
theorem Wcu {sp:Sp}{x:Int}(h:accE sp x=0):0<=x/\x%8=0/\gf sp.st (x.toNat/256)≠0:=by
 unfold accE at h;split at h
 ·cases h
 ·split at h
  ·cases h
  ·exact⟨by omega,by omega,by assumption⟩
theorem Waq (sp:Sp)(x v:Int):(QT sp x v).st.length=sp.st.length/\(∀p,gf (QT sp x v).st p=0↔gf sp.st p=0)/\∀w,(QT sp x v).wd w=if accE sp x=0/\w=x.toNat/8 then v else sp.wd w:=by
 unfold QT;split
 ·rename_i h0;have hz:=Wcu h0;refine⟨by simp[putW],λp=>?_,λw=>?_⟩
  ·show gf (sp.st.set (x.toNat/8/32) 2) p=0↔_;have hpe:x.toNat/8/32=x.toNat/256:=by omega
   rw[hpe];unfold gf at hz ⊢;rw[zL]at hz ⊢;rw[zL,zBD];split
   ·rename_i he;split
    ·rw[←he];simp only[zBH];exact⟨λh=>by omega,λh=>(hz.2.2 h).elim⟩
    ·rename_i hl;rw[zU (by omega)]at hz;exact(hz.2.2 rfl).elim
   ·exact Iff.rfl
  ·show(if w=x.toNat/8 then v else sp.wd w)=_
   by_cases hw:w=x.toNat/8
   ·rw[zB hw,zB ⟨h0,hw⟩]
   ·rw[zA hw,zA λh=>hw h.2]
 ·exact⟨rfl,λ_=>Iff.rfl,λw=>by rw[zA λh=>by have:=h.1;contradiction]⟩
theorem HI.write (h:HI H held s0)(x v:Int):HI {H with sp:=QT H.sp x v} held {s0 with wd:=(QT H.sp x v).wd}:=by
 obtain⟨h1,h2,_⟩:=Waq H.sp x v;exact⟨h.wi.wd _,⟨h1.trans h.sim.l,λp=>(h2 p).trans (h.sim.z p),rfl⟩,h.cn,h.lk,h.lv,h.gv,h.th,h.ok,h.a1,h1.trans h.sl⟩
end Go.Ar
namespace Go.Ar
open Go Go.Vc Go.Proofs
variable {U u w w':Hp}{F B P Q:Rg}{L:LayH}{H H':Hw}{t n:Nat}{g:Th}
def putK (s:ByteArray)(i k:Nat)(w:Int):Int:=match s[i*8+k]? with
 | some b=>bits .or .u64 w (IntKind.u64.wrap (IntKind.u64.wrap (b.toNat:Int)*2^(min (8*k) 64)))
 | none=>w
def putF (s:ByteArray)(i n:Nat):Int:=(List.range n).foldl (λw k=>putK s i k w) 0
def Wgp (s:ByteArray)(i:Nat):Int:=IntKind.i64.wrap (putF s i 8)
def putS (sp:Sp)(a:Int)(s:ByteArray)(n:Nat):Sp:=(List.range n).foldl (λsp (i:Nat)=>QT sp (a+((i:Int)+1)*8) (Wgp s i)) (QT sp a (s.size:Int))
inductive PutR (H:Hw) (thread:Int) (s:ByteArray):Hw->Int->Int->Prop
 | notReady:Qp H thread≠0->PutR H thread s H 0 (Qp H thread)
 | long:Qp H thread=0->400<s.size->PutR H thread s H 0 3
 | full {H':Hw} {a e:Int}:Qp H thread=0->s.size<=400->Va H thread 0 ((((s.size+7)/8+1)*8:Nat):Int) 8 0 H' a e->e≠0->PutR H thread s H' 0 e
 | ok {H1:Hw} {a:Int}:Qp H thread=0->s.size<=400->Va H thread 0 ((((s.size+7)/8+1)*8:Nat):Int) 8 0 H1 a 0->0<=a->a<=500000000000->PutR H thread s {H1 with sp:=putS H1.sp a s ((s.size+7)/8)} a 0
theorem WbH {s:ByteArray}{i:Nat}:s[i]?=if h:i<s.size then some s[i]else none:=by
 by_cases h:i<s.size
 ·rw[dif_pos h];exact getElem?_pos s i h
 ·rw[dif_neg h];exact getElem?_neg s i h
theorem WiD (hso:UW)(h:HH U F L H)(hc:CfOk H){thread a e:Int}{s:ByteArray}(hr:PutR H thread s H' a e){R:Int->Int->Hp->Prop}
 (hR:∀σ' ts',Ext F U σ'->HH σ' (Grow F U) {L with ts:=ts'} H'->R a e σ'):Qm.c (some ⟨L.p,0,none⟩) thread s U R:=by
 refine Qm.o ?_;unfold Qm.v;refine nw (cs:=[.int .i64 thread]) λv hz e0 hb=>?_;have K1:=(HK.start h).box e0 hz;refine Wds K1.h hc hb (λhf=>by have:=hf.2;omega) λv1 e1=>?_;have K2:=K1.fr e1;have siz:s.size<=400->∀{K:Int->Prop},K (((((s.size+7)/8+1)*8:Nat)):Int)->Ar .i64 (((s.size:Nat):Int)+8) λt28=>Ar .i64 (t28-1) λt29=>Nz 8<|Ar .i64 (t29.tdiv 8) λn=>Ar .i64 (n+1) λt35=>Ar .i64 (t35*8) λt36=>K t36:=λhs K hK=>by
  refine arN (m:=s.size+8) (by omega) (by omega) (arN (m:=s.size+7) (by omega) (by omega) (nz (by decide) (arN (m:=(s.size+7)/8) (by rw[Xm (by omega)];omega) (by omega) (arN (m:=(s.size+7)/8+1) (by omega) (by omega) (arN (m:=((s.size+7)/8+1)*8) (by omega) (by omega) hK)))))
 cases hr with
 | notReady h0=>exact ifT (by simpa using h0) (hR _ L.ts K2.e (K2.fin h))
 | long h0 hs=>exact ifF (by rw[h0];rfl) (ifDT (by omega) (hR _ L.ts K2.e (K2.fin h)))
 | @full H' a' e' h0 hs hw hne=>
  refine ifF (by rw[h0];rfl) (ifDF (by omega) ?_);refine arN (m:=s.size+8) (by omega) (by omega) (arN (m:=s.size+7) (by omega) (by omega) (nz (by decide) (arN (m:=(s.size+7)/8) (by rw[Xm (by omega)];omega) (by omega) (arN (m:=(s.size+7)/8+1) (by omega) (by omega) (arN (m:=((s.size+7)/8+1)*8) (by omega) (by omega) ?_)))));refine KR hso K2.h hc.2.2 hw λv3 ts3 e3 h3=>?_;have K3:=K2.to e3 h3 λb _ hb=>hb;exact ifT (by simpa using hne) (hR v3 ts3 K3.e (K3.fin h))
 | @ok H1 a' h0 hs hw ha0 ha1=>
  refine ifF (by rw[h0];rfl) (ifDF (by omega) ?_);refine arN (m:=s.size+8) (by omega) (by omega) (arN (m:=s.size+7) (by omega) (by omega) (nz (by decide) (arN (m:=(s.size+7)/8) (by rw[Xm (by omega)];omega) (by omega) (arN (m:=(s.size+7)/8+1) (by omega) (by omega) (arN (m:=((s.size+7)/8+1)*8) (by omega) (by omega) ?_)))));refine KR hso K2.h hc.2.2 hw λv3 ts3 e3 h3=>?_;have K3:=K2.to e3 h3 λb _ hb=>hb;refine ifF rfl (Hg K3.h a _ (by omega) λv4 e4 h4=>?_);have K4:=K3.to e4 h4 λb _ hb=>hb;generalize hn:(s.size+7)/8=n at hR;refine Zx (a:=.i .i64) (λ(z:Int) w=>∃(i:Nat) (B P:Rg),z=(i:Int)/\i<=n/\HK F U B w P {L with ts:=ts3} {H1 with sp:=putS H1.sp a s i}) (λz _=>n-z.toNat) ⟨0,_,_,rfl,by omega,K4⟩ ?_;rintro(z:Int) w ⟨i,B,P,rfl,hi,K⟩;refine ifD (λhlt=>?_) λhge=>?_
  ·refine VO (a:=.i .u64) (bb:=.i .i64) (λ(x z:Int) w'=>w'=w/\∃k:Nat,z=(k:Int)/\k<=8/\x=putF s i k) (λ_ z _=>8-z.toNat) ⟨rfl,0,rfl,by omega,rfl⟩ ?_;rintro(x:Int) (z:Int) w' ⟨rfl,k,rfl,hk,rfl⟩;refine ifD (λhlt2=>?_) λhge2=>?_
   ·have hsn:putK s i k (putF s i k)=putF s i (k+1):=by unfold putF;rw[zr,zv];rfl
    refine arN (m:=i*8) (by omega) (by omega) (arN (m:=i*8+k) (by omega) (by omega) (ifD (λhb=>?_) λhb=>?_))
    ·have hlt3:i*8+k<s.size:=by omega
     have hgb:s[i*8+k]?=some s[i*8+k]:=by rw[WbH,dif_pos hlt3]
     refine⟨s[i*8+k],by omega,by rw[iTn];exact hgb,arW (arN (m:=8*k) (by omega) (by omega) (nn (by omega) (arW (arN (m:=k+1) (by omega) (by omega) ⟨⟨rfl,k+1,rfl,by omega,?_⟩,by omega⟩))))⟩;rw[←hsn];unfold putK;rw[hgb];have:min ((8*k:Nat):Int).toNat IntKind.u64.bits=min (8*k) 64:=rfl;rw[this]
    ·have hgb:s[i*8+k]?=none:=by rw[WbH,dif_neg (by omega)]
     refine arN (m:=k+1) (by omega) (by omega) ⟨⟨rfl,k+1,rfl,by omega,?_⟩,by omega⟩;rw[←hsn];unfold putK;rw[hgb]
   ·have hk8:k=8:=by omega
    subst hk8;refine arN (m:=i+1) (by omega) (by omega) (arN (m:=(i+1)*8) (by omega) (by omega) (ar (by omega) (by omega) (arW (Hg K.h _ _ (by omega) λw1 e1 h1=>?_))));have K1:=K.to e1 h1 λb _ hb=>hb;have hsn:QT (putS H1.sp a s i) (a+(((i+1)*8:Nat):Int)) (IntKind.i64.wrap (putF s i 8))=putS H1.sp a s (i+1):=by
     unfold putS;rw[zr,zv];have:a+(((i+1)*8:Nat):Int)=a+((i:Int)+1)*8:=by omega
     rw[this];rfl
    simp only[hsn]at K1;exact arN (m:=i+1) (by omega) (by omega) ⟨⟨i+1,_,_,rfl,by omega,K1⟩,by omega⟩
  ·have hin:i=n:=by omega
   subst hin;exact hR w ts3 K.e (K.fin h)
def getB (sp:Sp)(a:Int)(j:Nat):Int:=IntKind.u8.wrap ((IntKind.u64.wrap (Vg sp (a+(((j/8+1)*8:Nat):Int)))).fdiv (2^(min (8*(j%8)) 64)))
def WkQ (sp:Sp)(a:Int)(n:Nat):ByteArray:=⟨(((List.range n).map (getB sp a)).map λx=>UInt8.ofNat x.toNat).toArray⟩
def UM (H:Hw)(a u:Int):Bool:=accE H.sp a != 0||(decide (Vg H.sp a<0)||(decide (400<Vg H.sp a)||decide (u/8<(Vg H.sp a+7)/8+1)))
def getV (H:Hw)(a:Int):ByteArray:=match ZJ H a with
 | none=>ByteArray.mk #[]
 | some u=>if UM H a u then ByteArray.mk #[]else WkQ H.sp a (Vg H.sp a).toNat
def getE (H:Hw)(a:Int):Int:=match ZJ H a with
 | none=>8
 | some u=>if UM H a u then 2 else 0
theorem WiG (h:HH U F L H)(hc:CfOk H)(a:Int)(ha:a<=500000000000)(hu:∀u,ZJ H a=some u->0<=u/\u<=1000000000)(ha0:(ZJ H a).isSome=true->0<=a){R:ByteArray->Int->Hp->Prop}
 (hR:∀σ',Ext0 U σ'->R (getV H a) (getE H a) σ'):Ql.c (some ⟨L.p,0,none⟩) a U R:=by
 refine Ql.o ?_;unfold Ql.v;refine WcE h hc λv e=>ifF rfl (QG (h.keep0 e) a λv1 e1=>?_);have e01:=e.trans e1;cases hus:ZJ H a with
 | none=>
  have:=hR v1 e01;unfold getV getE at this;rw[hus]at this;exact ifT rfl this
 | some u=>
  have hub:=hu u hus;have ha0:=ha0 (by rw[hus];rfl);have hV:getV H a=if UM H a u then ByteArray.mk #[]else WkQ H.sp a (Vg H.sp a).toNat:=by unfold getV;rw[hus]
  have hE:getE H a=if UM H a u then 2 else 0:=by unfold getE;rw[hus]
  rw[hV,hE]at hR;simp only[zBH,Option.isSome_some,zO];refine ifF rfl (VH (h.keep0 e01) a (by omega) λv2 e2=>?_);have e02:=e01.trans e2;refine QD (λr w=>w=v2/\r=(accE H.sp a != 0||decide (Vg H.sp a<0))) (λr w ⟨hw,hr⟩=>?_) λJ hJ=>?_
  ·subst hw;refine QD (λr w2=>w2=w/\r=(accE H.sp a != 0||(decide (Vg H.sp a<0)||decide (400<Vg H.sp a)))) (λr w2 ⟨hw,hr1⟩=>?_) λJ1 hJ1=>?_
   ·rw[hw];refine QD (λr w2=>w2=w/\r=UM H a u) (λr w2 ⟨hw,hr2⟩=>?_) λJ2 hJ2=>?_
    ·rw[hw];refine iff_ (λh1=>?_) λh0=>?_
     ·have:=hR w e02;rw[←hr2,h1]at this;exact this
     ·rw[←hr2,h0]at hR;have hb:=hr2.symm.trans h0;simp only[UM,zFG,decide_eq_false_iff_not]at hb;obtain⟨_,hb1,hb2,hb3⟩:=hb;generalize hn:(Vg H.sp a).toNat=m at hR;have hm:Vg H.sp a=(m:Int):=by omega
      rw[hm];refine mk (n:=m) (by omega) (by omega) λv6 hz6 e6 hb6=>?_;have hw6:=h.keep0 (e02.trans e6);have K0:=(HK.start (h.keep0 e02)).box e6 hz6;refine Zx (a:=.i .i64) (λ(z:Int) w'=>∃(i:Nat) (cs:List Value),z=(i:Int)/\i<=m/\HK F w (λb=>False\/b=w.size) w' (Cut F w) L H/\Ext0 w w'/\Blk w' w.size cs/\cs.length=m/\∀j,j<i->cs[j]?=some (.int .u8 (getB H.sp a j))) (λz _=>m-z.toNat) ⟨0,_,rfl,by omega,K0,e6,hb6,by simp,λj hj=>by omega⟩ ?_;rintro(z:Int) w' ⟨i,cs,rfl,hi,K,ew,hbw,hcl,hrd⟩;refine ifD (λhlt=>?_) λhge=>?_
      ·simp only at hlt;refine nz (by decide) (arN (m:=i/8) (by rw[Xm (by omega)];omega) (by omega) (arN (m:=i/8+1) (by omega) (by omega) (arN (m:=(i/8+1)*8) (by omega) (by omega) (ar (by omega) (by omega) (VH K.h _ (by omega) λw1 e1=>?_)))));refine arW (nz (by decide) (arN (m:=8*(i%8)) (by rw[QF (by omega)];omega) (by omega) (nn (by omega) (arW ?_))));refine ix (by omega) (by simp only;omega) ?_;rw[add_lit,show 0+(i:Int).toNat*1=i by omega];have K1:=K.fr e1;refine(e1.blk hbw id).s0 (by omega) λw2 o2 hb2=>?_;refine arN (m:=i+1) (by omega) (by omega) ⟨⟨i+1,_,rfl,by omega,K1.own o2 (.inr rfl),(ew.trans e1).only o2 (.inr (zC _)),hb2,by simp[hcl],λj hj=>?_⟩,by omega⟩;by_cases hji:j=i
       ·subst hji;rw[zK (by omega)];rfl
       ·rw[zd (by omega)];exact hrd j (by omega)
      ·have hin:i=m:=by simp only at hge;omega
       subst hin;have hcs:cs=((List.range i).map (getB H.sp a)).map (.int .u8):=by
        apply zm;intro j;by_cases hj:j<i
        ·rw[hrd j hj];simp[hj]
        ·rw[zU (by omega),zU (by simp;omega)]
       refine⟨(List.range i).map (getB H.sp a),by simp,?_,hR w' (e02.trans ew)⟩;intro j v' hv';rw[add_lit,hbw.cell,hcs];simpa using hv'
    ·refine iff_ (λh1=>hJ2 _ _ ⟨rfl,?_⟩) λh0=>?_
     ·rw[hr1]at h1;simp only[UM,zAR]at h1 ⊢;rcases h1 with h1|h1|h1
      ·rw[h1];simp
      ·rw[h1];simp
      ·rw[h1];simp
     ·rw[hr1]at h0;simp only[zFG,decide_eq_false_iff_not]at h0;obtain⟨q1,q2,q3⟩:=h0;refine ar (by omega) (by omega) (ar (by omega) (by omega) (nz (by decide) (ar (by rw[Xm (by omega)];omega) (by rw[Xm (by omega)];omega) ?_)));rw[Xm (by omega)];refine ar (by omega) (by omega) (Wfd u hub.1 (by omega) (hJ2 _ _ ⟨rfl,?_⟩));unfold UM;rw[q1,zH q2,zH q3,zCD,zCD,zCD];rw[decide_eq_decide];omega
   ·refine iff_ (λh1=>hJ1 _ _ ⟨rfl,?_⟩) λh0=>hJ1 _ _ ⟨rfl,?_⟩
    ·rw[hr]at h1;simp only[zAR]at h1;rcases h1 with h1|h1
     ·rw[h1];simp
     ·rw[h1];simp
    ·rw[hr]at h0;simp only[zFG]at h0;rw[h0.1,h0.2,zCD,zCD]
  ·refine iff_ (λh1=>hJ _ _ ⟨rfl,by rw[h1];rfl⟩) λh0=>hJ _ _ ⟨rfl,by rw[h0];rfl⟩
end Go.Ar
namespace Go.Proofs
open Go.Vc
set_option maxRecDepth 100000
def WT.h:Hn:=.q .o2 (.q (.q (.reg (.seq [.op,.op,.op,.grd false 2 [.op,.op]])) (.c (.q .o2 .l) .l)) (.q .o1 (.q .o1 (.q (.k (.loop [(4,.one .s),(5,.I)] (.q (.q .o2 (.c .l .l)) (.k (.q .o7 .o6))))) (.q .o6 (.q .o1 (.q (.q .o1 (.k (.loop [(6,.one .s),(7,.I)] (.q (.q .o4 (.c .l .l)) (.q (.k (.q (.reg (.heldJ true [] [(70,.one .b)] (.take 0 (.take 1 (.take 2 (.take 3 (.take 4 (.take 5 (.split 43 (.take 6 (.take 7 (.take 8 (.take 9 (.take 10 (.take 11 (.take 12 (.take 13 (.take 14 (.take 15 (.take 16 (.take 17 (.take 18 (.take 19 (.take 20 (.take 21 (.take 22 (.take 23 (.take 24 (.take 25 (.take 26 (.take 27 (.take 28 (.take 29 (.take 30 (.take 31 (.take 32 (.done)))))))))))))))))))))))))))) (.take 6 (.take 7 (.take 8 (.take 9 (.take 10 (.take 11 (.take 12 (.take 13 (.take 14 (.take 15 (.take 16 (.take 17 (.take 18 (.take 19 (.split 57 (.take 20 (.take 21 (.take 22 (.take 23 (.take 24 (.take 25 (.take 26 (.take 27 (.take 28 (.take 29 (.take 30 (.take 31 (.take 32 (.done)))))))))))))) (.take 20 (.take 21 (.take 22 (.take 23 (.take 25 (.take 26 (.take 27 (.take 28 (.take 29 (.all [(24,.all [(30,.take 31 (.take 32 (.done)))])])))))))))))))))))))))))))))))))))) (.c .o8 .l))) .o3))))) (.q .o3 .l))))))))
def WT.v (a:Int)(b:Hp)(c:Sl->Int->Hp->Prop):Prop:=JnB (λd e=>If d (c ⟨none,0,0⟩ 1 e) (Xo [.s,(.i .i64)] (λf=>f ⟨none,0,0⟩ 8 e) λg (h:Sl) (i:Int) j=>If (i<512) (Xg.c i a j λk l m n=>Nw (.cells #[.I k,.I l,.I m] 79 (0,0)) n λo p=>App h 3 24 79 [.I 0,.I 0,.I 0] ⟨some o,1,1⟩ p λq r=>XW.c i a r λs t=>Ar .i64 (i+s) λu=>g q u t) (Xg.c 512 a j λv w x y=>Nw (.cells #[.I v,.I w,.I x] 79 (0,0)) y λz aa=>App h 3 24 79 [.I 0,.I 0,.I 0] ⟨some z,1,1⟩ aa λab ac=>Xo [.s,(.i .i64)] (λad=>ad ⟨none,0,0⟩ 0 ac) λae (af:Sl) (ag:Int) ah=>If (ag<((ab.len:Nat):Int)) (Jn [.b] (λ(ai:Bool) aj=>If ai (Ix ab.a ab.len ag 3 λak=>LdI .i64 (ak.add 0) aj λal=>LdI .i64 (ak.add 1) aj λam=>LdI .i64 (ak.add 2) aj λan=>Nw (.cells #[.I al,.I am,.I an] 79 (0,0)) aj λao ap=>App af 3 24 79 [.I 0,.I 0,.I 0] ⟨some ao,1,1⟩ ap λaq ar=>Ar .i64 (ag+1) λau=>ae aq au ar) (Ar .i64 (ag+1) λav=>ae af av aj)) λaw=>Held ah λax=>Ar .i64 (((ab.len:Nat):Int)-1) λay=>If (ag==ay) (aw true ah) (Ix ab.a ab.len ag 3 λaz=>LdH ax (.i .i64) (az.add 1) λ(a0:Int)=>Ar .i64 (ag+1) λa1=>Ix ab.a ab.len a1 3 λa2=>LdH ax (.i .i64) (a2.add 1) λ(a3:Int)=>If (a0 != a3) (aw true ah) (Ix ab.a ab.len ag 3 λa4=>LdH ax (.i .i64) (a4.add 0) λ(a5:Int)=>LdH ax (.i .i64) (a4.add 1) λ(a6:Int)=>LdH ax (.i .i64) (a4.add 2) λ(a7:Int)=>Ar .i64 (ag+1) λa8=>Ix ab.a ab.len a8 3 λa9=>LdH ax (.i .i64) (a9.add 0) λ(ba:Int)=>LdH ax (.i .i64) (a9.add 1) λ(bb:Int)=>LdH ax (.i .i64) (a9.add 2) λ(bc:Int)=>WR.c a5 a6 a7 ah λbd be=>And (ax be) <|
 WR.c ba bb bc be λbf bg=>And (ax bg) <| aw (bd != bf) bg))) (c af 0 ah)))) λbh=>If (a<2) (bh true b) (bh (decide (a>16)) b)
theorem WT.o {a b c}(d:WT.v a b c):WT.c a b c:=Wa Tryz.func75 (x:=WT.h) (R0 d)
def Xg.h:Hn:=.q .o1 (.q .o8 (.q (.q .o1 (.k (.loop [(6,.I)] (.q (.q .o2 (.c .l .l)) (.q (.k (.q (.reg (.seq [.op,.op,.op,.op,.op,.grd true 9 (RI.ops 9)])) (.c .o3 .l))) .o3))))) (.q .o2 .l)))
def Xg.v (a b:Int)(c:Hp)(d:Int->Int->Int->Hp->Prop):Prop:=Nw (.cells #[.I 0,.I 0,.I 0] 79 (0,0)) c λe f=>Nz a<|Ar .i64 ((512:Int).tdiv a) λg=>Nw (.cells #[.I 0,.I 0,.I 0] 79 (0,0)) f λh i=>St1 (h.add 0) (.I a) i λj=>St1 (h.add 1) (.I 4) j λk=>St1 (h.add 2) (.I (if 32<(if 2>g then 2 else g)then 32 else(if 2>g then 2 else g))) k λl=>Xo [(.i .i64)] (λm=>m 4 l) λn (o:Int) p=>If (o≥1) (Ar .i64 (o*256) λq=>JnB (λr s=>If r (St1 (h.add 1) (.I o) s λt=>Ar .i64 (o-1) λu=>n u t) (Ar .i64 (o-1) λv=>n v s)) λw=>If (q≥a) (Ar .i64 (o*256) λx=>Nz a <| Ar .i64 (b*(x.tmod a)) λy=>Ar .i64 (o*256) λz=>w (decide (y<=z)) p) (w false p)) (LdI .i64 (h.add 0) p λaa=>LdI .i64 (h.add 1) p λab=>LdI .i64 (h.add 2) p λac=>St1 (e.add 0) (.I aa) p λad=>St1 (e.add 1) (.I ab) ad λae=>St1 (e.add 2) (.I ac) ae λaf=>LdI .i64 (e.add 0) af λag=>LdI .i64 (e.add 1) af λah=>LdI .i64 (e.add 2) af λai=>d ag ah ai af)
theorem Xg.o {a b c d}(e:Xg.v a b c d):Xg.c a b c d:=Wa Tryz.func102 (x:=Xg.h) (R0 e)
def XW.h:Hn:=.q .o1 (.q .o1 (.q (.k (.loop [(5,.I)] (.q (.q .o6 (.c .l .l)) (.k .o3)))) (.q .o2 .l)))
def XW.v (a b:Int)(c:Hp)(d:Int->Hp->Prop):Prop:=Xo [(.i .i64)] (λe=>e 8 c) λf (g:Int) h=>Ar .i64 (2*g) λi=>Nz b<|Ar .i64 (a.tdiv b) λj=>If (i<=j) (Ar .i64 (2*g) λk=>f k h) (d g h)
theorem XW.o {a b c d}(e:XW.v a b c d):XW.c a b c d:=Wa Tryz.func103 (x:=XW.h) (R0 e)
def WR.h:Hn:=.q .o2 (.q .o1 (.q (.k (.loop [(3,.I)] (.q (.q .o9 (.c .l .l)) (.k .o3)))) (.q .o2 .l)))
def WR.v (a b c:Int)(d:Hp)(e:Int->Hp->Prop):Prop:=Nw (.cells #[.I a,.I b,.I c] 79 (0,0)) d λf g=>Xo [(.i .i64)] (λh=>h 0 g) λi (j:Int) k=>Ar .i64 (j+1) λl=>LdI .i64 (f.add 0) k λm=>Ar .i64 (l*m) λn=>LdI .i64 (f.add 1) k λo=>Ar .i64 (o*256) λp=>If (n<=p) (Ar .i64 (j+1) λq=>i q k) (e j k)
theorem WR.o {a b c d e}(f:WR.v a b c d e):WR.c a b c d e:=Wa Tryz.func104 (x:=WR.h) (R0 f)
end Go.Proofs
namespace Go.Ar
open Go Go.Vc Go.Proofs
variable {U w:Hp}
abbrev T3:=Int×Int×Int
def v3 (x:T3):List Value:=[.int .i64 x.1,.int .i64 x.2.1,.int .i64 x.2.2]
def v3s (l:List T3):List Value:=l.flatMap v3
theorem Wek (l:List T3):(v3s l).length=l.length*3:=by
 induction l with
 | nil=>rfl
 | cons x l ih=>simp only[v3s,zBR,zQ,v3,zV,zAK]at *;omega
theorem Wkq (l:List T3)(x:T3):v3s (l++[x])=v3s l++v3 x:=by simp[v3s]
theorem Wb7:∀{l:List T3} {i:Nat} {x:T3},l[i]?=some x->∀{d:Nat},d<3->(v3s l)[i*3+d]?=(v3 x)[d]?
 | [],_,_,h,_,_=>by simp at h
 | y::l,0,x,h,d,hd=>by
  simp at h;subst h;have e:v3s (y::l)=v3 y++v3s l:=rfl;rw[e,zf (by simp[v3];omega)];congr 1;omega
 | y::l,i+1,x,h,d,hd=>by
  have e:v3s (y::l)=v3 y++v3s l:=rfl;have e3:(v3 y).length=3:=rfl;rw[e,zn (by omega),e3,show(i+1)*3+d-3=i*3+d by omega];exact Wb7 (by simpa using h) hd
theorem Wfs {Q:Rg}{s:Sl}{l:List T3}(h:Own Q U s 3 (v3s l)):Acts U s l:=by
 have hl:=h.1;rw[Wek]at hl;refine⟨by omega,λi x y z hx=>?_⟩;obtain⟨b,ha,h0⟩:=h.cell (j:=i*3+0) (v:=.int .i64 x) ((Wb7 hx (by omega)).trans rfl);obtain⟨b',ha',h1⟩:=h.cell (j:=i*3+1) (v:=.int .i64 y) ((Wb7 hx (by omega)).trans rfl);rw[ha]at ha';cases ha';obtain⟨b',ha',h2⟩:=h.cell (j:=i*3+2) (v:=.int .i64 z) ((Wb7 hx (by omega)).trans rfl);rw[ha]at ha';cases ha';refine⟨b,0,ha,Kg h0,?_,?_,?_⟩
 ·rw[show 0+i*3=i*3+0 by omega];exact h0
 ·rw[show 0+i*3+1=i*3+1 by omega];exact h1
 ·rw[show 0+i*3+2=i*3+2 by omega];exact h2
def WaQ (s w:Int)(n:Nat):Int:=([4,3,2,1].take n).foldl (λ(r p:Int)=>if s<=p*256/\w*((p*256)%s)<=p*256 then p else r) 4
def Wff (s:Int):Int:=min 32 (max 2 (512/s))
def mCls (s w:Int):T3:=(s,WaQ s w 4,Wff s)
def stF:Nat->Int->Int->Int
 | 0,d,_=>d
 | n+1,d,q=>if 2*d<=q then stF n (2*d) q else d
def WiY (s w:Int):Int:=stF 8 8 (s/w)
def mObj (x:T3):Int:=x.2.1*256/x.1
theorem WhY (s w:Int)(n:Nat):1<=WaQ s w n/\WaQ s w n<=4:=by
 have key:∀(l:List Int) (r:Int),(∀p∈l,1<=p/\p<=4)->1<=r/\r<=4->1<=l.foldl (λ(r p:Int)=>if s<=p*256/\w*((p*256)%s)<=p*256 then p else r) r/\l.foldl (λ(r p:Int)=>if s<=p*256/\w*((p*256)%s)<=p*256 then p else r) r<=4:=by
  intro l
  induction l with
  | nil=>intro r _ h;exact h
  | cons p l ih=>
   intro r hl hr;rw[zAB];refine ih _ (λq hq=>hl q (zAS _ hq)) ?_;split
   ·exact hl p zBA
   ·exact hr
 refine key _ _ (λp hp=>?_) (by omega);have:=zCP hp;simp at this;omega
theorem Wc0 (s w:Int)(h1:8<=s)(h2:s<=512)(hw1:2<=w)(hw2:w<=16){R:Int->Int->Int->Hp->Prop}(hR:∀σ',Ext0 U σ'->R (mCls s w).1 (mCls s w).2.1 (mCls s w).2.2 σ'):Xg.c s w U R:=by
 refine Xg.o ?_;unfold Xg.v;have hb0:1<=512/s/\512/s<=64:=⟨by rw[Int.le_ediv_iff_mul_le (by omega)];omega,Int.ediv_le_of_le_mul (by omega) (by omega)⟩;refine nw (cs:=[.int .i64 0,.int .i64 0,.int .i64 0]) λv hz e hb=>nz (by omega) (ar (by rw[Xm (by omega)];omega) (by rw[Xm (by omega)];omega) ?_);rw[Xm (by omega)];refine nw (cs:=[.int .i64 0,.int .i64 0,.int .i64 0]) λv1 hz1 e1 hb1=>hb1.s1 (by simp) λv2 o2 b2=>b2.s1 (by simp) λv3' o3 b3=>b3.s1 (by simp) λv4 o4 b4=>?_;have hne:U.size≠v.size:=by omega
 have hbv:=Ws o4 (Ws o3 (Ws o2 (e1.blk hb id) hne) hne) hne;have e4:Ext0 U v4:=((((e.trans e1).only o2 (.inr (by omega))).only o3 (.inr (by omega))).only o4 (.inr (by omega)));have hbat:(if 32<(if 2>512/s then 2 else 512/s)then 32 else(if 2>512/s then 2 else 512/s))=Wff s:=by unfold Wff;omega
 rw[hbat]at b4;refine Zx (a:=.i .i64) (λ(z:Int) u=>∃n:Nat,n<=4/\z=4-(n:Int)/\Ext0 U u/\Blk u U.size [.int .i64 0,.int .i64 0,.int .i64 0]/\Blk u v.size [.int .i64 s,.int .i64 (WaQ s w n),.int .i64 (Wff s)]) (λz _=>z.toNat) ⟨0,by omega,rfl,e4,hbv,b4⟩ ?_;rintro(z:Int) u ⟨n,hn,rfl,eu,hu,bu⟩;refine ifD (λhge=>?_) λhlt=>?_
 ·have hn3:n<4:=by omega
  have hsn:WaQ s w (n+1)=if s<=(4-(n:Int))*256/\w*(((4-(n:Int))*256)%s)<=(4-(n:Int))*256 then 4-(n:Int)else WaQ s w n:=by
   have ht:([4,3,2,1]:List Int)[n]?=some (4-(n:Int)):=by
    rcases(show n=0\/n=1\/n=2\/n=3 by omega)with rfl|rfl|rfl|rfl<;>rfl
   unfold WaQ;rw[zAG,ht,zv];rfl
  refine ar (by omega) (by omega) ?_;refine QD (λr u'=>u'=u/\r=decide (s<=(4-(n:Int))*256/\w*(((4-(n:Int))*256)%s)<=(4-(n:Int))*256)) (λr u' ⟨hu',hr⟩=>?_) λJ hJ=>?_
  ·subst hu';by_cases hc:s<=(4-(n:Int))*256/\w*(((4-(n:Int))*256)%s)<=(4-(n:Int))*256
   ·rw[zI hc]at hr;rw[zB hc]at hsn;refine ifT hr (bu.s1 (by simp) λu1 o1 b1=>ar (by omega) (by omega) ⟨⟨n+1,by omega,by omega,eu.only o1 (.inr (by omega)),Ws o1 hu hne,by rw[hsn];exact b1⟩,by omega⟩)
   ·rw[zH hc]at hr;rw[zA hc]at hsn;exact ifF hr (ar (by omega) (by omega) ⟨⟨n+1,by omega,by omega,eu,hu,by rw[hsn];exact bu⟩,by omega⟩)
  ·have hm1:=Int.emod_nonneg ((4-(n:Int))*256) (show s≠0 by omega);have hm2:=Int.emod_lt_of_pos ((4-(n:Int))*256) (show 0<s by omega);have hm3:w*(((4-(n:Int))*256)%s)<=16*512:=Int.mul_le_mul hw2 (by omega) hm1 (by omega);have hm4:0<=w*(((4-(n:Int))*256)%s):=Int.mul_nonneg (by omega) hm1;refine ifD (λh1=>ar (by omega) (by omega) (nz (by omega) ?_)) λh1=>hJ _ _ ⟨rfl,(zH λhx=>h1 hx.1).symm⟩;rw[QF (by omega)];refine ar (by omega) (by omega) (ar (by omega) (by omega) (hJ _ _ ⟨rfl,?_⟩));rw[decide_eq_decide];exact⟨λhx=>⟨h1,hx⟩,λhx=>hx.2⟩
 ·have hn4:n=4:=by omega
  subst hn4;refine bu.rI rfl (bu.rI rfl (bu.rI rfl (hu.s1 (by simp) λu1 o1 b1=>b1.s1 (by simp) λu2 o2 b2=>b2.s1 (by simp) λu3 o3 b3=>b3.rI rfl (b3.rI rfl (b3.rI rfl (hR u3 ?_))))));exact((eu.only o1 (.inr (by omega))).only o2 (.inr (by omega))).only o3 (.inr (by omega))
theorem Wko (s w:Int)(h1:8<=s)(h2:s<=512)(hw1:2<=w){R:Int->Hp->Prop}(hR:8<=WiY s w->WiY s w<=256->R (WiY s w) U):XW.c s w U R:=by
 refine XW.o ?_;unfold XW.v;have hq:0<=s/w/\s/w<=256:=⟨Int.ediv_nonneg (by omega) (by omega),by
  have:s/w<=s/2:=by
   apply Int.le_ediv_of_mul_le (by omega);have:=Int.ediv_mul_le s (show w≠0 by omega);have h3:s/w*2<=s/w*w:=Int.mul_le_mul_of_nonneg_left hw1 (Int.ediv_nonneg (by omega) (by omega));omega
  omega⟩
 refine Zx (a:=.i .i64) (λ(d:Int) u=>u=U/\∃n:Nat,stF n d (s/w)=WiY s w/\8<=d/\d<=256/\512<=d*2^n) (λd _=>1000-d.toNat) ⟨rfl,8,rfl,by omega,by omega,by decide⟩ ?_;rintro(d:Int) u ⟨rfl,n,hst,hd1,hd2,hdn⟩;refine ar (by omega) (by omega) (nz (by omega) (ar (by rw[Xm (by omega)];omega) (by rw[Xm (by omega)];omega) ?_));rw[Xm (by omega)];cases n with
 | zero=>simp at hdn;omega
 | succ n=>
  refine ifD (λhle=>ar (by omega) (by omega) ⟨⟨rfl,n,?_,by omega,by omega,?_⟩,by omega⟩) λhgt=>?_
  ·rw[stF,zB hle]at hst;exact hst
  ·rw[Int.pow_succ]at hdn;have:2*d*2^n=d*(2^n*2):=by rw[Int.mul_comm 2 d,Int.mul_assoc,Int.mul_comm 2 (2^n)]
   omega
  ·rw[stF,zA hgt]at hst;rw[←hst]at hR;exact hR hd1 hd2
theorem WhJ (x:T3)(h1:8<=x.1)(h2:x.1<=512)(h3:1<=x.2.1)(h4:x.2.1<=4){R:Int->Hp->Prop}(hR:∀σ',Ext0 U σ'->R (mObj x) σ'):WR.c x.1 x.2.1 x.2.2 U R:=by
 refine WR.o ?_;unfold WR.v;refine nw (cs:=[.int .i64 x.1,.int .i64 x.2.1,.int .i64 x.2.2]) λv hz e hb=>?_;refine Zx (a:=.i .i64) (λ(n:Int) u=>Ext0 U u/\Blk u U.size [.int .i64 x.1,.int .i64 x.2.1,.int .i64 x.2.2]/\0<=n/\n<=128/\n*x.1<=x.2.1*256) (λn _=>1000-n.toNat) ⟨e,hb,by omega,by omega,by omega⟩ ?_;rintro(n:Int) u ⟨eu,bu,hn0,hn1,hn⟩;have hm:(n+1)*x.1<=129*512:=Int.mul_le_mul (by omega) h2 (by omega) (by omega);have hm0:0<=(n+1)*x.1:=Int.mul_nonneg (by omega) (by omega);refine ar (by omega) (by omega) (bu.rI rfl (ar (by omega) (by omega) (bu.rI rfl (ar (by omega) (by omega) ?_))));refine ifD (λhle=>ar (by omega) (by omega) ⟨⟨eu,bu,by omega,?_,hle⟩,by omega⟩) λhgt=>?_
 ·have:(n+1)*8<=(n+1)*x.1:=Int.mul_le_mul_of_nonneg_left h1 (by omega);omega
 ·have:mObj x=n:=by
   unfold mObj;have a1:n<=x.2.1*256/x.1:=(Int.le_ediv_iff_mul_le (by omega)).2 hn;have a2:x.2.1*256/x.1<n+1:=(Int.ediv_lt_iff_lt_mul (by omega)).2 (by omega);omega
  have h5:=hR u eu;rw[this]at h5;exact h5
def allF:Nat->Int->Int->List T3
 | 0,_,_=>[]
 | n+1,s,w=>if s<512 then mCls s w::allF n (s+WiY s w) w else[]
def allM (w:Int):List T3:=allF 64 8 w++[mCls 512 w]
def G4 (l:List T3)(i:Nat):Bool:=i==l.length-1||(match l[i]?,l[i+1]? with
 | some x,some y=>x.2.1 != y.2.1||mObj x != mObj y
 | _,_=>false)
def outM (l:List T3)(n:Nat):List T3:=(List.range n).filterMap λi=>if G4 l i then l[i]? else none
def WcL (w:Int):List T3:=outM (allM w) (allM w).length
def T3ok (x:T3):Prop:=8<=x.1/\x.1<=512/\1<=x.2.1/\x.2.1<=4
theorem WhZ (s w:Int)(h1:8<=s)(h2:s<=512):T3ok (mCls s w):=⟨h1,h2,WhY s w 4⟩
theorem app3 {Q:Rg}{s:Sl}{l:List T3}{e1 e2:Nat}(ho:Own Q U s 3 (v3s l))(hQ:∀b,U.size<=b->Q b)(hl:l.length<=1000)(x:T3){K:Sl->Hp->Prop}(hK:∀s' σ',Ext Q U σ'->Own Q σ' s' 3 (v3s (l++[x]))->K s' σ') :
 Nw (.cells #[.int .i64 x.1,.int .i64 x.2.1,.int .i64 x.2.2] e1 (0,0)) U λn20 v3=>App s 3 24 e2 [.int .i64 0,.int .i64 0,.int .i64 0] ⟨some n20,1,1⟩ v3 K:=by
 have hsl:s.len=l.length:=by have:=ho.1;rw[Wek]at this;omega
 refine nw (cs:=v3 x) λv hz e hb=>?_;refine(ho.keep0 e).app (ys:=v3 x) (λb hb=>hQ b (by omega)) rfl rfl ?_ (by simp[v3,one1]) ?_ ?_ zBI λs' v' _ e' h' _=>hK s' v' ?_ ?_
 ·intro j u hu;rw[add_lit,zJ,hb.cell];exact hu
 ·simp only;have:(s.len+1)*24<=1001*24:=zAJ (by omega) (by omega);omega
 ·simp only;omega
 ·exact(Ext0.to e).trans (e'.sub λb hb=>((ho.keep0 e).blk_lt hb).1)
 ·rw[Wkq];exact h'
theorem WjP (w:Int)(h:w<2\/16<w){R:Sl->Int->Hp->Prop}(hR:R ⟨none,0,0⟩ 1 U):WT.c w U R:=by
 refine WT.o ?_;unfold WT.v;exact JnB.intro (ifD (λh1=>ifT rfl hR) λh1=>ifT (zI (by omega)) hR)
theorem WgR (w:Int)(hw1:2<=w)(hw2:w<=16){R:Sl->Int->Hp->Prop}(hR:∀s' σ',Ext0 U σ'->Acts σ' s' (WcL w)->R s' 0 σ'):WT.c w U R:=by
 refine WT.o ?_;unfold WT.v;refine JnB.intro (ifDF (by omega) (ifF (zH (by omega)) ?_));refine VO (a:=.s) (bb:=.i .i64) (λ(all:Sl) (s:Int) u=>∃(n:Nat) (done:List T3),8<=s/\s<=768/\Ext0 U u/\Own (λb=>U.size<=b) u all 3 (v3s done)/\done++allF n s w=allF 64 8 w/\512<=s+8*(n:Int)/\(∀x∈done,T3ok x)/\done.length+n=64) (λ_ s _=>1000-s.toNat) ⟨64,[],by omega,by omega,Ext.refl _ _,Own.nil _ _ _,rfl,by omega,by simp,by simp⟩ ?_;rintro(all:Sl) (s:Int) u ⟨n,done,hs1,hs2,eu,ho,hdone,hn,hok,hlen⟩;refine ifD (λhlt=>?_) λhge=>?_
 ·obtain⟨n,rfl⟩:∃m,n=m+1:=⟨n-1,by omega⟩;refine Wc0 s w (by omega) (by omega) hw1 hw2 λv2 e2=>?_;refine app3 (ho.keep0 e2) (λb hb=>by have:=eu.1;have:=e2.1;omega) (by omega) (mCls s w) λall1 v4 e4 h4=>?_;have e04:Ext0 U v4:=Ext.newT (eu.trans e2) e4 λb hb=>.inr hb;refine Wko s w (by omega) (by omega) hw1 λd1 d2=>ar (by omega) (by omega) ⟨⟨n,done++[mCls s w],by omega,by omega,e04,h4,?_,by omega,λx hx=>?_,by simp;omega⟩,by omega⟩
  ·rw[←hdone,zt]
   congr 1
   conv=>rhs;rw[allF,zB hlt]
   rfl
  ·rcases zS.1 hx with h1|h1
   ·exact hok x h1
   ·rw[zZ]at h1;subst h1;exact WhZ s w (by omega) (by omega)
 ·have hnil:allF n s w=[]:=by
   cases n with
   | zero=>rfl
   | succ n=>rw[allF,zA hge]
  rw[hnil,zAC]at hdone;refine Wc0 512 w (by omega) (by omega) hw1 hw2 λv6 e6=>?_;refine app3 (ho.keep0 e6) (λb hb=>by have:=eu.1;have:=e6.1;omega) (by omega) (mCls 512 w) λall2 v8 e8 h8=>?_;have e08:Ext0 U v8:=Ext.newT (eu.trans e6) e8 λb hb=>.inr hb;rw[hdone]at h8;have hok8:∀x∈allM w,T3ok x:=λx hx=>by
   rcases zS.1 hx with h1|h1
   ·rw[←hdone]at h1;exact hok x h1
   ·rw[zZ]at h1;subst h1;exact WhZ 512 w (by omega) (by omega)
  have hml:(allM w).length<=65:=by unfold allM;rw[←hdone];simp;omega
  have h8:Own (λb=>U.size<=b) v8 all2 3 (v3s (allM w)):=h8;generalize hall:allM w=l at h8 hok8 hml;have hmk:WcL w=outM l l.length:=by unfold WcL;rw[hall]
  have hl2:all2.len=l.length:=by have:=h8.1;rw[Wek]at this;omega
  refine VO (a:=.s) (bb:=.i .i64) (λ(out:Sl) (z:Int) u=>∃i:Nat,z=(i:Int)/\i<=l.length/\Ext0 v8 u/\Own (λb=>v8.size<=b) u out 3 (v3s (outM l i))/\(outM l i).length<=i) (λ_ z _=>l.length-z.toNat) ⟨0,rfl,by omega,Ext.refl _ _,Own.nil _ _ _,by simp[outM]⟩ ?_;rintro(out:Sl) (z:Int) u ⟨i,rfl,hi,eu8,hout,hol⟩;refine ifD (λhlt=>?_) λhge=>?_
  ·have hi':i<l.length:=by omega
   have hx:l[i]?=some l[i]:=gGe hi';generalize l[i]=x at hx;have hxo:=hok8 x (zD hx);have hsn:outM l (i+1)=outM l i++(if G4 l i then[x]else[]):=by
    unfold outM;rw[zr,zDZ]
    congr 1
    by_cases hk:G4 l i=true
    ·simp[hk,hx]
    ·simp[hk]
   have hA:∀m,Ext0 u m->Acts m all2 l:=λm em=>Wfs (h8.keep0 (eu8.trans em));refine WnC (λr u'=>Ext0 u u'/\r=G4 l i) (λr u' ⟨eu',hr⟩=>?_) λJ3 hJ3=>?_
   ·have hou:=hout.keep0 eu';cases hk:G4 l i with
    | true=>
     rw[hk]at hr hsn;refine ifT hr (WbJ (hA u' eu') hx ?_);refine app3 hou (λb hb=>by have:=eu8.1;have:=eu'.1;omega) (by omega) x λout1 v12 e12 h12=>?_;refine arN (m:=i+1) (by omega) (by omega) ⟨⟨i+1,rfl,by omega,Ext.newT (eu8.trans eu') e12 λb hb=>.inr hb,?_,?_⟩,by omega⟩
     ·rw[hsn];exact h12
     ·rw[hsn];simp;omega
    | false=>
     rw[hk]at hr hsn;refine ifF hr (arN (m:=i+1) (by omega) (by omega) ⟨⟨i+1,rfl,by omega,eu8.trans eu',?_,?_⟩,by omega⟩)
     ·rw[hsn];simpa using hou
     ·rw[hsn];simp;omega
   ·refine⟨λm=>Ext0 u m,Ext.refl _ _,ar (by omega) (by omega) ?_⟩;refine iff_ (λhlast=>hJ3 _ _ ⟨Ext.refl _ _,?_⟩) λhnl=>?_
    ·have:i=l.length-1:=by simp only[zY]at hlast;omega
     unfold G4;rw[this];simp
    ·have hi2:i+1<l.length:=by simp only[zAA]at hnl;omega
     have hy:l[i+1]?=some l[i+1]:=gGe hi2;generalize l[i+1]=y at hy;have hyo:=hok8 y (zD hy);have hkp:G4 l i=(x.2.1 != y.2.1||mObj x != mObj y):=by
      unfold G4;rw[hx,hy];have:(i==l.length-1)=false:=by simp only[zAA];omega
      rw[this];rfl
     have hcx:=λ(m:Hp) (em:Ext0 u m)=>(hA m em).2 i x.1 x.2.1 x.2.2 hx;have hcy:=λ(m:Hp) (em:Ext0 u m)=>(hA m em).2 (i+1) y.1 y.2.1 y.2.2 hy;obtain⟨b,o,ha,_,_⟩:=hcx u (Ext.refl _ _);have rx:∀m,Ext0 u m->cell m ⟨b,o+i*3,none⟩=some (.int .i64 x.1)/\cell m ⟨b,o+i*3+1,none⟩=some (.int .i64 x.2.1)/\cell m ⟨b,o+i*3+2,none⟩=some (.int .i64 x.2.2):=λm em=>by
      obtain⟨b',o',ha',_,h⟩:=hcx m em;rw[ha]at ha';cases ha';exact h
     have ry:∀m,Ext0 u m->cell m ⟨b,o+(i+1)*3,none⟩=some (.int .i64 y.1)/\cell m ⟨b,o+(i+1)*3+1,none⟩=some (.int .i64 y.2.1)/\cell m ⟨b,o+(i+1)*3+2,none⟩=some (.int .i64 y.2.2):=λm em=>by
      obtain⟨b',o',ha',_,h⟩:=hcy m em;rw[ha]at ha';cases ha';exact h
     have ixx:∀{K:Addr->Prop},K ⟨b,o+i*3,none⟩->Ix all2.a all2.len (i:Int) 3 K:=λhK=>by
      rw[ha];exact ix (by omega) (by omega) (by rw[add_lit,iTn];exact hK)
     have ixy:∀{K:Addr->Prop},K ⟨b,o+(i+1)*3,none⟩->Ix all2.a all2.len ((i+1:Nat):Int) 3 K:=λhK=>by
      rw[ha];exact ix (by omega) (by omega) (by rw[add_lit,iTn];exact hK)
     refine ixx ⟨x.2.1,λm em=>by rw[add_lit];exact(rx m em).2.1,arN (m:=i+1) (by omega) (by omega) (ixy ⟨y.2.1,λm em=>by rw[add_lit];exact(ry m em).2.1,?_⟩)⟩;refine iff_ (λhp=>hJ3 _ _ ⟨Ext.refl _ _,by rw[hkp,hp];rfl⟩) λhp=>?_;refine ixx ⟨x.1,λm em=>by rw[add_lit];exact(rx m em).1,⟨x.2.1,λm em=>by rw[add_lit];exact(rx m em).2.1,⟨x.2.2,λm em=>by rw[add_lit];exact(rx m em).2.2,?_⟩⟩⟩;refine arN (m:=i+1) (by omega) (by omega) (ixy ⟨y.1,λm em=>by rw[add_lit];exact(ry m em).1,⟨y.2.1,λm em=>by rw[add_lit];exact(ry m em).2.1,⟨y.2.2,λm em=>by rw[add_lit];exact(ry m em).2.2,?_⟩⟩⟩);refine WhJ x hxo.1 hxo.2.1 hxo.2.2.1 hxo.2.2.2 λv13 e13=>⟨e13,WhJ y hyo.1 hyo.2.1 hyo.2.2.1 hyo.2.2.2 λv14 e14=>⟨e13.trans e14,hJ3 _ _ ⟨e13.trans e14,by rw[hkp,hp];rfl⟩⟩⟩
  ·have hil:i=l.length:=by omega
   subst hil;refine hR out u (e08.trans eu8) ?_;rw[hmk];exact Wfs hout
theorem Wbq:∀w:Nat,2<=w->w<=16->Qo (WcL (w:Int))=true:=by
 have h:((List.range 17).all λw=>decide (w<2)||Qo (WcL (w:Int)))=true:=by decide +kernel
 intro w h1 h2;have:=zu.1 h w (zb.2 (by omega));simp only[zAR,zP]at this;exact this.resolve_left (by omega)
end Go.Ar
namespace Go.Proofs
open Go.Shelf
def Tryz.sortFL_ren:Go.Shelf.Ren:=⟨fun|6=>229|15=>141|14=>263|28=>209|29=>210|20=>283|21=>284|22=>285|23=>286|24=>287|25=>288|26=>289|27=>290|46=>296|47=>245|48=>246|49=>297|50=>298|57=>300|n=>n,fun|22=>112|24=>119|25=>311|3=>3|39=>219|0=>0|53=>290|55=>86|4=>4|46=>284|45=>283|50=>266|5=>5|9=>9|66=>324|70=>328|76=>351|77=>352|n=>n,fun|n=>n⟩
theorem Tryz.sortFL:Go.Proofs.SlLaysF0.n6 Tryz.prog Tryz.sortFL_ren:={
 mixed:=by kernel_rfl
 f6:=⟨Tryz.f229.name,by decide,Tryz.func229.trans (congrArg some (by kernel_rfl))⟩
 f14:=⟨Tryz.f263.name,by decide,Tryz.func263.trans (congrArg some (by kernel_rfl))⟩
 f15:=Tryz.func141.trans (congrArg some (by kernel_rfl))
 f20:=⟨Tryz.f283.name,by decide,Tryz.func283.trans (congrArg some (by kernel_rfl))⟩
 f21:=⟨Tryz.f284.name,by decide,Tryz.func284.trans (congrArg some (by kernel_rfl))⟩
 f22:=⟨Tryz.f285.name,by decide,Tryz.func285.trans (congrArg some (by kernel_rfl))⟩
 f23:=⟨Tryz.f286.name,by decide,Tryz.func286.trans (congrArg some (by kernel_rfl))⟩
 f24:=⟨Tryz.f287.name,by decide,Tryz.func287.trans (congrArg some (by kernel_rfl))⟩
 f25:=⟨Tryz.f288.name,by decide,Tryz.func288.trans (congrArg some (by kernel_rfl))⟩
 f26:=⟨Tryz.f289.name,by decide,Tryz.func289.trans (congrArg some (by kernel_rfl))⟩
 f27:=⟨Tryz.f290.name,by decide,Tryz.func290.trans (congrArg some (by kernel_rfl))⟩
 f28:=Tryz.func209.trans (congrArg some (by kernel_rfl))
 f29:=Tryz.func210.trans (congrArg some (by kernel_rfl))
 f46:=⟨Tryz.f296.name,by decide,Tryz.func296.trans (congrArg some (by kernel_rfl))⟩
 f47:=Tryz.func245.trans (congrArg some (by kernel_rfl))
 f48:=Tryz.func246.trans (congrArg some (by kernel_rfl))
 f49:=⟨Tryz.f297.name,by decide,Tryz.func297.trans (congrArg some (by kernel_rfl))⟩
 f50:=⟨Tryz.f298.name,by decide,Tryz.func298.trans (congrArg some (by kernel_rfl))⟩
 f57:=⟨Tryz.f300.name,by decide,Tryz.func300.trans (congrArg some (by kernel_rfl))⟩
 t0:=Tryz.underlying0
 a0:=Tryz.isAgg0
 z0:=Tryz.sizeOf0
 v0:=Tryz.zeroValue0
 t3:=Tryz.underlying3
 a3:=Tryz.isAgg3
 z3:=Tryz.sizeOf3
 v3:=Tryz.zeroValue3
 t4:=Tryz.underlying4
 a4:=Tryz.isAgg4
 z4:=Tryz.sizeOf4
 v4:=Tryz.zeroValue4
 t5:=Tryz.underlying5
 a5:=Tryz.isAgg5
 z5:=Tryz.sizeOf5
 v5:=Tryz.zeroValue5
 t9:=Tryz.underlying9
 a9:=Tryz.isAgg9
 z9:=Tryz.sizeOf9
 v9:=Tryz.zeroValue9
 t22:=Tryz.underlying112
 a22:=Tryz.isAgg112
 z22:=Tryz.sizeOf112
 v22:=Tryz.zeroValue112
 t25:=Tryz.underlying311
 a25:=Tryz.isAgg311
 z25:=Tryz.sizeOf311
 v25:=Tryz.zeroValue311
 t39:=Tryz.underlying219
 a39:=Tryz.isAgg219
 z39:=Tryz.sizeOf219
 v39:=Tryz.zeroValue219
 t45:=Tryz.underlying283
 a45:=Tryz.isAgg283
 z45:=Tryz.sizeOf283
 v45:=Tryz.zeroValue283
 t46:=Tryz.underlying284
 a46:=Tryz.isAgg284
 z46:=Tryz.sizeOf284
 v46:=Tryz.zeroValue284
 t50:=Tryz.underlying266
 a50:=Tryz.isAgg266
 z50:=Tryz.sizeOf266
 v50:=Tryz.zeroValue266
 t53:=Tryz.underlying290
 a53:=Tryz.isAgg290
 z53:=Tryz.sizeOf290
 v53:=Tryz.zeroValue290
 t55:=Tryz.underlying86
 a55:=Tryz.isAgg86
 z55:=Tryz.sizeOf86
 v55:=Tryz.zeroValue86
 t66:=Tryz.underlying324
 a66:=Tryz.isAgg324
 z66:=Tryz.sizeOf324
 v66:=Tryz.zeroValue324
 t70:=Tryz.underlying328
 a70:=Tryz.isAgg328
 z70:=Tryz.sizeOf328
 v70:=Tryz.zeroValue328
 t76:=Tryz.underlying351
 a76:=Tryz.isAgg351
 z76:=Tryz.sizeOf351
 v76:=Tryz.zeroValue351
 t77:=Tryz.underlying352
 a77:=Tryz.isAgg352
 z77:=Tryz.sizeOf352
 v77:=Tryz.zeroValue352}
end Go.Proofs
namespace Go.Ar
open Go Go.Vc Go.Proofs Go.RowKit Go.Sort Go.Shelf Go.Lib
abbrev BtK:=Fin 64×Sl
instance:Inhabited BtK:=⟨(0,⟨none,0,0⟩)⟩
def encB (x:BtK):List Value:=[.int .i64 (x.1.val:Int),.slice x.2.a x.2.len x.2.cap]
def cfB (x y:BtK):Int:=(x.1.val:Int)-(y.1.val:Int)
theorem cmpB (x y:BtK)(W:World):Calls Tryz.prog 230 #[.agg #[.int .i64 (x.1.val:Int),.slice x.2.a x.2.len x.2.cap],.agg #[.int .i64 (y.1.val:Int),.slice y.2.a y.2.len y.2.cap]] W λe w'=>e=.returned (.int .i64 (cfB x y))/\∃q os',w'=grow (W.drewN q) os':=by
 have hw:IntKind.i64.wrap ((x.1.val:Int)-(y.1.val:Int))=cfB x y:=by
  have h1:=x.1.isLt;have h2:=y.1.isLt;unfold cfB;exact UE (by omega) (by omega)
 go_enter Tryz.func230,Tryz.ntmps230
 go_wp2
 go_ret
 exact⟨rfl,0,_,by rw[alloc_eq_grow,alloc_eq_grow,grow_grow];rfl⟩
theorem swoB:SWO (ltOf cfB) where
 irrefl x:=by simp[ltOf,cfB]
 trans x y z h1 h2:=by
  have h1:=zCA h1;have h2:=zCA h2;unfold cfB at h1 h2;exact zI (by unfold cfB;omega)
 ntrans x y z h1 h2:=by
  have h1:=zCI h1;have h2:=zCI h2;unfold cfB at h1 h2;exact zH (by unfold cfB;omega)
def unK (x:BtK):Nat×Sl:=(x.1.val,x.2)
theorem flB (l:List BtK)(j:Nat)(hj:j<l.length*2):(btsV (l.map unK))[j]?=some (flatK encB 2 l.toArray)[j]! := by
 rw[get_flatK _ _ _ _ (by simpa using hj)];have hi:j/2<l.length:=by omega
 have e1:l.toArray[j/2]! = l[j/2]:=by rw[getElem!_pos _ _ (by simpa using hi)];simp
 have hg:(l.map unK)[j/2]?=some (unK l[j/2]):=by simp[hi]
 have:=Wj0 hg (d:=j%2) (by omega);rw[show 2*(j/2)+j%2=j by omega]at this;rw[this,e1];have hd:j%2=0\/j%2=1:=by omega
 rcases hd with h|h<;>rw[h]<;>rfl
theorem WbP:UW:=by
 intro U F s xs hrow hk hlen R hR;rintro w rfl;have hsl:s.len=xs.length:=by have:=hrow.1;rw[KD]at this;omega
 rcases hrow.2 with⟨h0,hc0⟩|⟨b,cs,hF,ha,hb,hle,hcl,ht⟩
 ·have hxs:xs=[]:=zFI.1 (by omega);have:=AnyF.slices_SortFunc_none Tryz.sortFL s.a s.cap (.func (.func 230) #[] #[]) w;show Calls _ _ #[.slice s.a s.len s.cap,.func (.func 230) #[] #[]] w _;rw[h0];refine this.mono ?_;rintro e w' ⟨rfl,rfl⟩;subst hxs;exact⟨.refl _,[],rfl,hR [] _ (.refl _) List.Pairwise.nil (Ext.refl _ _) hrow⟩
 ·have hlt:∀x∈xs,x.1<64:=hk
  let toK:Nat×Sl->BtK:=λx=>(Fin.ofNat 64 x.1,x.2)
  have hun:(xs.map toK).map unK=xs:=by
   rw[zAP]
   conv=>rhs;rw[←zDV xs]
   apply zy;intro x hx;simp only[Function.comp,toK,unK,Fin.ofNat,id];rw[zCC (hlt x hx)]
  have hdl:(xs.map toK).length=xs.length:=by simp
  generalize xs.map toK=l at hun hdl;have hbl:=hb.lt;have hH:HoldsK encB 2 w b 0 l.toArray:=by
   intro j hj;simp only[size_flatK,zFL]at hj;have hc:Vc.cell w.heap ⟨b,0+j,none⟩=some (flatK encB 2 l.toArray)[j]! := by
    rw[hb.cell,zJ,←flB l j hj,hun];rw[←ht,zX,zB (by rw[KD];omega)]
   exact⟨hc,hb.frz⟩
  have eg:∀args w,(callFunc 230 args).run Tryz.prog w=.ok (.enter 230 args) w:=enters_of Tryz.func230 (by kernel_rfl) rfl;have hagg:∀w,(isAgg (Tryz.sortFL_ren.t 24)).run Tryz.prog w=.ok true w:=λw=>by
   have h:=KE (P:=Tryz.prog) (t:=Tryz.sortFL_ren.t 24) (d:=(Tryz.prog.underlying (Tryz.sortFL_ren.t 24)).getD .bool) (by kernel_rfl) w
   rwa [show Uo ((Tryz.prog.underlying (Tryz.sortFL_ren.t 24)).getD .bool)=true by kernel_rfl]at h
  have hsz:∀w,(Go.sizeOf (Tryz.sortFL_ren.t 24)).run Tryz.prog w=.ok 2 w:=λw=>by
   have h:=QO (P:=Tryz.prog) (t:=Tryz.sortFL_ren.t 24) (by kernel_rfl) w
   rwa [show Tryz.prog.cellsOf (Tryz.sortFL_ren.t 24)=2 by kernel_rfl]at h
  have hcon:=AnyQ.slices_SortFunc Tryz.sortFL 2 hagg hsz encB (λ_=>rfl) (λx v hv=>by simp only[encB,zR,List.not_mem_nil,or_false]at hv;rcases hv with rfl|rfl<;>rfl) cfB swoB 230 #[] b 0 s.cap l.toArray w eg (λ_ _ _ _ x y=>cmpB x y _) hH hbl (by simp only[zFL];omega)
  show Calls _ _ #[.slice s.a s.len s.cap,.func (.func 230) #[] #[]] w _;rw[ha,show s.len=l.toArray.size by simp only[zFL];omega];refine hcon.mono ?_;rintro e w' ⟨rfl,d',n,os,hp,hso,rfl⟩;have hds:d'.size=l.length:=by simpa using hp.1
  have hperm:d'.toList.Perm l:=by
   have h3:=hp.2.2;rw[show l.toArray.size=d'.size by simp[hds]]at h3;have e1:(d'.extract 0 d'.size)=d':=by simp
   have e2:(l.toArray.extract 0 d'.size)=l.toArray:=by rw[hds];simp
   rw[e1,e2]at h3;simpa using h3
  obtain⟨ty,hob⟩:=hb;have hheap:(sortWorldK encB 2 w b 0 n d' os).heap=(w.heap.modify b (onCells (putCells id 0 (flatK encB 2 d'))))++os:=rfl;have hsm:(w.heap.modify b (onCells (putCells id 0 (flatK encB 2 d')))).size=w.heap.size:=by simp
  refine⟨⟨rfl,rfl,rfl,by rw[hheap,Array.size_append,hsm];omega⟩,[],rfl,?_⟩;rw[hheap];have hext:Ext F w.heap ((w.heap.modify b (onCells (putCells id 0 (flatK encB 2 d'))))++os):=by
   refine⟨by rw[Array.size_append,hsm];omega,λq hq hf=>?_⟩;rw[zFU (by rw[hsm];exact hq),zEW,zA λ(e:b=q)=>hf (by rw[←e];exact hF)]
  refine hR (d'.toList.map unK) _ ?_ ?_ hext ⟨?_,.inr ⟨b,(putCells id 0 (flatK encB 2 d') cs.toArray).toList,hF,ha,⟨ty,?_⟩,hle,?_,?_⟩⟩
  ·rw[←hun];exact hperm.map _
  ·rw[zDQ];rw[zAI];intro i j hi hj hij;have h1:=hso i j (by omega) hij (by simp only[zDY]at hj;simp only[zFL];omega);rw[getElem!_pos d' i (by simpa using hi),getElem!_pos d' j (by simpa using hj)]at h1;have h1:=zCI h1;unfold cfB at h1;simp only[unK,Array.getElem_toList];omega
  ·rw[KD,zh,zDY,hds];omega
  ·rw[zFU (by rw[hsm];exact hbl),zEW,zB rfl,hob];simp[onCells]
  ·simp[putCells,hcl]
  ·rw[KD,zh,zDY,hds];apply zm;intro j;rw[zX];by_cases hj:j<l.length*2
   ·rw[zB hj,flB d'.toList j (by simpa[hds]using hj)];have hjc:j<cs.length:=by
     have:l.length*2<=s.cap*2:=zAD _ (by omega);omega
    simp only[putCells,zEP,Array.getElem?_mapIdx,List.getElem?_toArray,gGe hjc,zc];rw[zB ⟨by omega,by rw[size_flatK,hds];omega⟩];simp
   ·rw[zA hj,zU (by rw[KD,zh,zDY,hds];omega)]
end Go.Ar
namespace Go.Proofs
open Go.Vc
set_option maxRecDepth 100000
def Xv.h:Hn:=.q .o1 (.q .o5 .l)
def Xv.v (a:Sl)(b:Int)(c:Hp)(d:Bool->Hp->Prop):Prop:=d (decide (((a.len:Nat):Int)>b)) c
theorem Xv.o {a b c d}(e:Xv.v a b c d):Xv.c a b c d:=Wa Tryz.func20 (x:=Xv.h) (R0 e)
def Yf.h:Hn:=.q .o2 (.q (.q (.reg (.seq [.op,.op,.op,.op,.grd false 3 (RI.ops 3)])) (.c (.q .o3 .l) .l)) (.q (.oq 12) .l))
def Yf.v (a:Sl)(b c d e f g h:Int)(i:ByteArray)(j:Hp)(k:Int->Hp->Prop):Prop:=Nw (.cells #[.I b,.I c,.I d,.I e,.I f,.I g,.I h,.string i] 54 (0,0)) j λl m=>LdI .i64 (l.add 4) m λn=>JnB (λo p=>If o (LdI .i64 (l.add 5) p λq=>k q p) (LdI .i64 (l.add 4) p λr=>Nz ((a.len:Nat):Int) <| Ix a.a a.len (r.tmod ((a.len:Nat):Int)) 1 λs=>LdI .i64 s p λt=>LdI .i64 (l.add 5) p λu=>Ar .i64 (t+u) λv=>k v p)) λw=>If (n<0) (w true m) (w (((a.len:Nat):Int)==0) m)
theorem Yf.o {a b c d e f g h i j k}(l:Yf.v a b c d e f g h i j k):Yf.c a b c d e f g h i j k:=Wa Tryz.func22 (x:=Yf.h) (R0 l)
def Yc.h:Hn:=.q .o4 (.q .o4 (.q (.q .o2 (.k (.q .o2 (.c (.q (.o 13) (.q .o6 .l)) (.q .o2 (.c (.q .o8 .l) (.q .o2 (.c (.q .o7 .l) (.q .o2 (.c (.q .o8 .l) (.q .o2 (.c (.q .o8 (.q .o5 .l)) (.q .o2 (.c (.q (.o 12) .l) (.q .o2 (.c (.q .o9 .l) (.q .o2 (.c (.q (.o 12) (.q (.q (.reg (.seq [.op,.op,.op,.grd false 2 [.op,.op]])) (.c (.q .o4 .l) .l)) (.q (.oq 10) .l))) (.q .o2 (.c (.q .o9 (.q .o5 .l)) (.q .o2 (.c (.q .o5 .l) (.q .o2 (.c .o2 .l)))))))))))))))))))))))) (.q .o3 .l)))
def Yc.v (a:R2)(b:Sl)(c d e f g h i:Int)(j:ByteArray)(k:Hp)(l:Int->Int->Int->Hp->Prop):Prop:=Nw (.cells #[.I c,.I d,.I e,.I f,.I g,.I h,.I i,.string j] 54 (0,0)) k λm n=>LdI .i64 (m.add 0) n λo=>LdI .i64 (m.add 1) n λp=>LdI .i64 (m.add 2) n λq=>LdI .i64 (m.add 3) n λr=>LdI .i64 (m.add 4) n λs=>LdI .i64 (m.add 5) n λt=>LdI .i64 (m.add 6) n λu=>LdT (m.add 7) n λv=>Yf.c b o p q r s t u v n λw x=>LdI .i64 (m.add 0) x λy=>If (y==0) (LdI .i64 (m.add 1) x λz=>LdI .i64 (m.add 2) x λaa=>LdI .i64 (m.add 3) x λab=>Xr.c a z aa ab x λac ad ae=>l ac ad ac ae) (If (y==1) (LdI .i64 (m.add 1) x λaf=>YQ.c a af w x λag ah=>l 0 ag 0 ah) (If (y==2) (LdI .i64 (m.add 1) x λai=>Zc.c a ai x λaj ak=>l 0 aj 0 ak) (If (y==3) (LdI .i64 (m.add 6) x λal=>XM.c a w al x λam an=>l 0 am 0 an) (If (y==4) (Xn.c a w x λao ap aq=>l ao ap 0 aq) (If (y==5) (LdI .i64 (m.add 1) x λar=>LdI .i64 (m.add 2) x λau=>LdI .i64 (m.add 3) x λav=>Yh.c a ar 0 au av 0 x λaw ax=>l 0 aw 0 ax) (If (y==6) (LdI .i64 (m.add 1) x λay=>Yh.c a ay 1 0 0 w x λaz a0=>l 0 az 0 a0) (If (y==7) (LdI .i64 (m.add 1) x λa1=>Xy.c a a1 x λa2 a3 a4 a5 a6=>Nw (.cells #[.I 0,.I 0] 97 (0,0)) a6 λa7 a8=>St1 (a7.add 0) (.I a3) a8 λa9=>St1 (a7.add 1) (.I a4) a9 λba=>JnB (λbb bc=>If bb (l 0 a5 0 bc) (LdI .i64 (a7.add 0) bc λbd=>LdI .i64 (a7.add 1) bc λbe=>Ar .i64 (100+be) λbf=>LdI .i64 (a7.add 0) bc λbg=>l bd bf bg bc)) λbh=>If (a5 != 0) (bh true ba) (bh (!a2) ba)) (If (y==8) (LdI .i64 (m.add 2) x λbi=>
 Yp.c a bi x λbj bk bl=>l bj bk 0 bl) (If (y==9) (Zm.c a x λbm bn=>l bm 0 0 bn) (If (y==10) (Zk.c a x λbo=>l 0 0 0 bo) (l 0 0 0 x)))))))))))
theorem Yc.o {a b c d e f g h i j k l}(m:Yc.v a b c d e f g h i j k l):Yc.c a b c d e f g h i j k l:=Wa Tryz.func24 (x:=Yc.h) (R0 m)
def XB.h:Hn:=.q .o1 (.q .o4 .l)
def XB.v (a:Hp)(b:Option Addr->Hp->Prop):Prop:=Wu.c 8 64 1 1 1024 2 a λc d=>b c d
theorem XB.o {a b}(c:XB.v a b):XB.c a b:=Wa Tryz.func45 (x:=XB.h) (R0 c)
def WL.h:Hn:=.q .o2 (.q .o5 .l)
def WL.v (a b c d e f:Int)(g:Hp)(h:Bool->Hp->Prop):Prop:=Nw (.cells #[.I a,.I b,.I c,.I d,.I e,.I f] 46 (0,0)) g λi j=>LdI .i64 ((i.add 1).add 0) j λk=>h (decide (k>128)) j
theorem WL.o {a b c d e f g h}(i:WL.v a b c d e f g h):WL.c a b c d e f g h:=Wa Tryz.func46 (x:=WL.h) (R0 i)
def Wu.h:Hn:=.q .o2 (.q .o8 (.q .o9 (.q (.q .o2 (.c (.q .o1 .l) .l)) (.q .o2 .l))))
def Wu.v (a b c d e f:Int)(g:Hp)(h:Option Addr->Hp->Prop):Prop:=Nw (.cells #[.I a,.I b,.I c,.I d,.I e,.I f] 46 (0,0)) g λi j=>LdI .i64 (i.add 0) j λk=>WT.c k j λl m n=>LdI .i64 ((i.add 1).add 0) n λo=>LdI .i64 ((i.add 1).add 1) n λp=>LdI .i64 ((i.add 1).add 2) n λq=>LdI .i64 ((i.add 1).add 3) n λr=>LdI .i64 ((i.add 1).add 4) n λs=>Kx.c l o p q r s n λt u v=>If (u != 0) (h none v) (h t v)
theorem Wu.o {a b c d e f g h}(i:Wu.v a b c d e f g h):Wu.c a b c d e f g h:=Wa Tryz.func47 (x:=Wu.h) (R0 i)
end Go.Proofs
namespace Go.Ar
open Go Go.Vc Go.Proofs
variable {U w w':Hp}{F P Q:Rg}{L:LayH}{H H':Hw}{held:List Pc}{s0:Sp}{t n:Nat}{g:Th}
structure Deed where
 kd:Int
 th:Int
 a:Int
 b:Int
 of:Int
 pl:Int
 va:Int
 s:ByteArray
def WcW (d:Deed):List Value:=[.int .i64 d.kd,.int .i64 d.th,.int .i64 d.a,.int .i64 d.b,.int .i64 d.of,.int .i64 d.pl,.int .i64 d.va,.string d.s]
def I64 (x:Int):Prop:=-9223372036854775808<=x/\x<=9223372036854775807
structure DeedI (d:Deed):Prop where
 a:I64 d.a
 b:I64 d.b
 pl:I64 d.pl
 va:I64 d.va
structure Deeds (U:Hp) (sl:Sl) (ds:List Deed):Prop where
 len:sl.len=ds.length
 at_:∀(i:Nat) (d:Deed),ds[i]?=some d->∃b o,sl.a=some ⟨b,o,none⟩/\b<U.size/\∀(j:Nat) v,(WcW d)[j]?=some v->cell U ⟨b,o+i*8+j,none⟩=some v
 i:∀d∈ds,DeedI d
 big:ds.length<=9223372036854775807
theorem Deeds.keep0 {sl:Sl}{ds:List Deed}(h:Deeds U sl ds)(e:Ext0 U w):Deeds w sl ds:=⟨h.len,λi d hx=>by
 obtain⟨b,o,ha,hb,hc⟩:=h.at_ i d hx;exact⟨b,o,ha,by have:=e.1;omega,λj v hv=>by rw[Kn e hb id];exact hc j v hv⟩,h.i,h.big⟩
theorem Deeds.rd {sl:Sl}{ds:List Deed}(h:Deeds U sl ds)(e:Ext0 U w){i:Nat}{d:Deed}(hx:ds[i]?=some d){K:Addr->Prop}(hK:∀b o,(∀w',Ext0 U w'->∀(j:Nat) v,(WcW d)[j]?=some v->cell w' ⟨b,o+j,none⟩=some v)->K ⟨b,o,none⟩):Ix sl.a sl.len (i:Int) 8 K:=by
 obtain⟨b,o,ha,hb,hc⟩:=h.at_ i d hx;have hl:=(gSi.1 hx).1;have hlen:=h.len;rw[ha];refine ix (by omega) (by omega) ?_;rw[add_lit,iTn];exact hK b _ λw' e' j v hv=>by rw[Kn e' hb id];exact hc j v hv
theorem ldT0 {b o i:Nat}{h:Hp}{x:ByteArray}{K:ByteArray->Prop}(hc:cell h ⟨b,o+i,none⟩=some (.string x))(hK:K x):LdT (Addr.add ⟨b,o,none⟩ i) h K:=⟨x,by rw[add_lit];exact hc,hK⟩
theorem _root_.Go.Vc.Blk.rT {b o i:Nat}{cs:List Value}(hb:Blk U b cs){x:ByteArray}{K:ByteArray->Prop}(hc:cs[o+i]?=some (.string x))(hK:K x):LdT (Addr.add ⟨b,o,none⟩ i) U K:=⟨x,by rw[add_lit,hb.cell];exact hc,hK⟩
def atV (ad:List Int)(d:Deed):Int:=if d.of<0\/ad=[]then d.pl else IntKind.i64.wrap (ad.getD (d.of.toNat%ad.length) 0+d.pl)
theorem Wna {ad:List Int}{d:Deed}(h:DeedI d):I64 (atV ad d):=by
 unfold atV;split
 ·exact h.pl
 ·exact WkX _
theorem Wnm {addrs:Sl}{ad:List Int}(hs:SlR addrs 1 (WB ad) U F)(d:Deed){R:Int->Hp->Prop}(hR:∀σ',Ext0 U σ'->R (atV ad d) σ'):Yf.c addrs d.kd d.th d.a d.b d.of d.pl d.va d.s U R:=by
 refine Yf.o ?_;unfold Yf.v;have hl:addrs.len=ad.length:=by have:=hs.1;simp[WB]at this;omega
 refine nw (cs:=WcW d) λv hz e hb=>hb.rI rfl (QD (λr w=>w=v/\r=decide (d.of<0\/ad=[])) (λr w ⟨hw,hr⟩=>?_) λJ hJ=>ifD (λh1=>hJ _ _ ⟨rfl,by rw[zI (.inl h1)]⟩) λh1=>hJ _ _ ⟨rfl,?_⟩)
 ·subst hw;have hR1:=hR w e;by_cases hc:d.of<0\/ad=[]
  ·refine ifT (by rw[hr];exact zI hc) (hb.rI rfl ?_);unfold atV at hR1;rw[zB hc]at hR1;exact hR1
  ·have hpos:0<ad.length:=zBZ.2 λh=>hc (.inr h);refine ifF (by rw[hr];exact zH hc) (hb.rI rfl (nz (by omega) ?_));have h0:0<=d.of:=by omega
   have hm:d.of.tmod (addrs.len:Int)=((d.of.toNat%ad.length:Nat):Int):=by
    rw[QF h0,hl,Int.natCast_emod,Int.toNat_of_nonneg h0]
   rw[hm];have hlt:d.of.toNat%ad.length<ad.length:=zDE _ hpos;have hg:ad[d.of.toNat%ad.length]?=some ad[d.of.toNat%ad.length]:=gGe hlt;refine(SlR.loc _ _ _ |>.keep0 ((SlR.loc _ _ _).cut hs) e).ixI hg (hb.rI rfl (arW ?_));unfold atV at hR1;rw[zA hc,zL,hg]at hR1;exact hR1
 ·rw[hl];rw[zBF];simp only[zY,zP];constructor
  ·intro h;exact .inr (zFI.1 (by omega))
  ·rintro(h|h)
   ·exact(h1 h).elim
   ·rw[h];rfl
theorem Wg0 {l:Sl}{most:Int}{R:Bool->Hp->Prop}(hR:R (decide ((l.len:Int)>most)) U):Xv.c l most U R:=by
 refine Xv.o ?_;unfold Xv.v;exact hR
theorem WlF {xs:List (Int×Int×Int)}(h:Qo xs=true):(xs.map Z9).map clsT=xs:=by
 rw[zAP]
 conv=>rhs;rw[←zDV xs]
 apply zy;intro t ht;obtain⟨i,hi⟩:=zM ht;have:=((Z7 xs).1 h).2.2.1 i t hi;obtain⟨c,_,h1,h2,h3,h4⟩:=GH this;simp only[Function.comp,id];rw[show Z9 t=c from h1];unfold clsT;rw[←h2,←h3,←h4]
theorem WnY {xs:List (Int×Int×Int)}(h:Qo xs=true):(xs.map Z9).length<=40/\∀c∈xs.map Z9,c.ok:=by
 refine⟨by have:=((Z7 xs).1 h).2.1;simpa using this,λc hc=>?_⟩;obtain⟨t,ht,rfl⟩:=zE.1 hc;obtain⟨i,hi⟩:=zM ht;have:=((Z7 xs).1 h).2.2.1 i t hi;obtain⟨c,hok,h1,_⟩:=GH this;rw[show Z9 t=c from h1];exact hok
structure NewH (H:Hw) (pages:Int):Prop where
 hi:HI H [] (Vi H.cf.pages)
 cf:CfOk H
 pg:(H.cf.pages:Int)=pages
 live:H.live=[]
theorem WmP {xs:List (Int×Int×Int)}{p a t b r:Int}(h:Qo xs=true)(hc:Wdc p a t b r=true):NewH (Ua (xs.map Z9) ⟨p.toNat,a.toNat,t.toNat,b.toNat,r.toNat⟩) p:=by
 obtain⟨⟨q1,q2,q3⟩,⟨q4,q5⟩,⟨q6,q7⟩,_⟩:=(WcI p a t b r).1 hc;obtain⟨l40,hok⟩:=WnY h;refine⟨Wn8 (cf:=⟨p.toNat,a.toNat,t.toNat,b.toNat,r.toNat⟩) (by simp only;omega) (by simp only;omega) (by simp only;omega) (by simp only;omega) l40 hok,⟨by simp only[Ua];omega,by simp[Ua],?_⟩,by simp only[Ua];omega,rfl⟩;show Qo ((xs.map Z9).map clsT)=true;rw[WlF h];exact h
theorem WnL (g:Gl U)(gd:Gd U)(b b1 b2 b3 b4 b5:Int){R:Option Addr->Hp->Prop}(h0:∀σ',Ext0 U σ'->R none σ')
 (h1:∀σ' L N H,Ext0 U σ'->U.size<=N->N<=σ'.size->HH σ' (λb=>N<=b) L H->NewH H b1->R (some ⟨L.p,0,none⟩) σ'):Wu.c b b1 b2 b3 b4 b5 U R:=by
 refine Wu.o ?_;unfold Wu.v;refine nw (cs:=[.int .i64 b,.int .i64 b1,.int .i64 b2,.int .i64 b3,.int .i64 b4,.int .i64 b5]) λv hz e hb=>hb.rI rfl ?_;by_cases hw:2<=b/\b<=16
 ·refine WgR b hw.1 hw.2 λs v1 e1 ha=>?_;have hb1:=e1.blk hb id;have e01:=e.trans e1;have hv:Qo (WcL b)=true:=by
   have:=Wbq b.toNat (by omega) (by omega);rw[show((b.toNat:Nat):Int)=b by omega]at this;exact this
  refine hb1.rI2 rfl (hb1.rI2 rfl (hb1.rI2 rfl (hb1.rI2 rfl (hb1.rI2 rfl ?_))));refine WdU ha (g.keep0 e01) (gd.keep0 e01) b1 b2 b3 b4 b5 (λhv'=>by rw[hv]at hv';cases hv') (λ_ hc v2 e2=>?_) λ_ hc v2 L e2 h2=>?_
  ·exact ifT rfl (h0 v2 (e01.trans e2))
  ·exact ifF rfl (h1 v2 L v1.size _ (e01.trans e2) e01.1 e2.1 h2 (WmP hv hc))
 ·refine WjP b (by omega) (hb.rI2 rfl (hb.rI2 rfl (hb.rI2 rfl (hb.rI2 rfl (hb.rI2 rfl ?_)))));have ha:Acts v ⟨none,0,0⟩ []:=⟨rfl,λi x y z hx=>by simp at hx⟩;refine WdU ha (g.keep0 e) (gd.keep0 e) b1 b2 b3 b4 b5 (λ_ v2 e2=>ifT rfl (h0 v2 (e.trans e2))) (λhv=>?_) λhv=>?_
  ·exact absurd hv (by decide)
  ·exact absurd hv (by decide)
theorem Wix (h:HH U F L H)(thread:Int)(hn:∀t:Nat,thread=t->t<H.ths.length->phAt H t=none){R:Bool->Int->Int->Int->Hp->Prop}(hR:∀σ' e,Ext0 U σ'->e≠0->R false 0 0 e σ'):Xy.c (some ⟨L.p,0,none⟩) thread U R:=by
 refine Xy.o ?_;unfold Xy.v;refine nw (cs:=[.int .i64 0,.int .i64 0]) λv hz e hb=>?_;have K1:=(HK.start h).box e hz;have fin:∀er:Int,er≠0->St1 (Addr.add ⟨U.size,0,none⟩ 0) (.int .i64 0) v λv5=>St1 (Addr.add ⟨U.size,0,none⟩ 1) (.int .i64 0) v5 λv6=>LdI .i64 (Addr.add ⟨U.size,0,none⟩ 0) v6 λres2=>LdI .i64 (Addr.add ⟨U.size,0,none⟩ 1) v6 λres3=>R false res2 res3 er v6:=λer hne=>
  hb.s1 (by simp) λv1 o1 b1=>b1.s1 (by simp) λv2 o2 b2=>b2.rI rfl (b2.rI rfl (hR v2 er ((e.only o1 (.inr (zC _))).only o2 (.inr (zC _))) hne))
 refine Kh K1.h (ifF rfl (U2 K1.h thread ?_));by_cases hth:0<=thread/\thread<(H.ths.length:Int)
 ·obtain⟨t,rfl⟩:∃t:Nat,thread=(t:Int):=⟨thread.toNat,by omega⟩;have ht:t<H.ths.length:=by omega
  obtain⟨x,g,hx,hg⟩:=h.th ht;have hp:=hn t rfl ht;unfold phAt at hp;rw[hg]at hp;have hp:g.ph=none:=hp;refine ifF (by rw[zI hth];rfl) (nilP (K1.h.hd.rS rfl (K1.h.tR hx hg ⟨G5 _,?_⟩)));rw[hp];exact ifT rfl (fin 5 (by decide))
 ·exact ifT (by rw[zH hth];rfl) (fin 1 (by decide))
def Safe (H:Hw)(d:Deed)(x:Int)(e:Int×Bk):Prop:=(∀j,phAt H j≠some (.find e.1))/\¬((d.kd=3\/d.kd=1\/d.kd=6)/\e.1<=x/\x<e.1+e.2.2.1)
structure DoE (H:Hw) (d:Deed) (x:Int) (H':Hw):Prop where
 hi:∃held s0,HI H' held s0
 kp:Z3 H' H
 fx:∀e∈H.live,Safe H d x e->e∈H'.live/\(∀w:Nat,e.1<=((8*w:Nat):Int)->((8*w:Nat):Int)<e.1+e.2.2.1->H'.sp.wd w=H.sp.wd w)/\∀j,phAt H' j≠some (.find e.1)
theorem DoE.same (h:HI H held s0)(d:Deed)(x:Int):DoE H d x H:=⟨⟨_,_,h⟩,Z3.refl _,λe he hs=>⟨he,λ_ _ _=>rfl,hs.1⟩⟩
theorem DoE.op (h:HI H held s0){d:Deed}{x:Int}(o:OpOk H H')(hl:∀e∈H.live,Safe H d x e->e∈H'.live):DoE H d x H':=
 ⟨o.hi,o.kp,λe he hs=>⟨hl e he hs,h.kl o.ks e he,λj=>by rw[o.ph];exact hs.1 j⟩⟩
theorem DoE.ar {d:Deed}{x:Int}(o:ArOk H H'):DoE H d x H':=
 ⟨o.hi,o.kp,λe he hs=>⟨by rw[o.live];exact he,o.kl e he,λj=>by unfold phAt;rw[o.ths];exact hs.1 j⟩⟩
theorem HI.size8 (h:HI H held s0){e:Int×Bk}(he:e∈H.live):8<=e.2.2.1/\0<=e.1/\e.1%8=0/\e.2.2.1%8=0/\e.1+e.2.2.1<=270000:=by
 obtain⟨_,p,hp,h1,h2,h3,h4,_⟩:=h.lv e he;have s8:=h.wi'.size_pos hp;have al:=h.wi'.addr_lt hp;obtain⟨A,hA,hd⟩:=h.wi'.hf p hp;have a8:p.addr%8=0:=by
  rcases hd with⟨_,_,r,hr,c2,c3⟩|⟨j,c,c1,c2,c3,c4,_⟩
  ·omega
  ·obtain⟨c',ss,hcl,ht⟩:=c4;have:c'=c:=Option.some.inj (hcl.1.symm.trans c2);subst this;have hC:=(h.wi'.ga _ A hA).cen j c' ss hcl;obtain⟨l,s,i,hs,hi,e,_⟩:=(V7 hC).1 ht;have hok:=hC.ok;unfold Cls.ok at hok;unfold at_ at e;have h8:c'.size=8*(c'.size/8):=by omega
   have:i*c'.size=8*(i*(c'.size/8)):=by rw[Nat.mul_left_comm,←h8]
   omega
 omega
theorem DoE.write (h:HI H held s0){d:Deed}{x:Int}(hd:d.kd=3)(v:Int):DoE H d x {H with sp:=QT H.sp x v}:=by
 refine⟨⟨_,_,h.write x v⟩,⟨rfl,rfl,rfl,rfl⟩,λe he hs=>⟨he,λw h1 h2=>?_,hs.1⟩⟩;have h8:=h.size8 he;rw[(Waq H.sp x v).2.2,zA];rintro⟨h0,hw⟩;have hz:=Wcu h0;exact hs.2 ⟨.inl hd,by omega,by omega⟩
theorem Wjc {size align a e:Int}(h:MalE H size align H' a e):∀x∈H.live,x∈H'.live:=λx hx=>by
 rcases h with⟨_,_,h3⟩|⟨_,h2,_,cl,h3,_⟩
 ·rw[h3];exact hx
 ·rw[h3];exact(VY h2).2 (.inl hx)
theorem DoE.free (h:HI H held s0){d:Deed}{x thread e:Int}(hd:d.kd=1)(o:OpOk H H')(hf:FreE H thread x H' e):DoE H d x H':=by
 refine DoE.op h o λe' he hs=>?_;have h8:=h.size8 he;rcases hf with⟨_,h2,_⟩|⟨_,_,_,h4⟩|⟨_,b,_,_,h4⟩
 ·rw[h2];exact he
 ·rw[h4];exact he
 ·rw[h4];refine GD.2 ⟨he,λhx=>hs.2 ⟨.inr (.inl hd),by omega,by omega⟩⟩
theorem DoE.step (h:HI H held s0){d:Deed}{x:Int}(hg:H.ths[t]?=some g){p:Ph}(hp:g.ph=some p):DoE H d x (QC H t p):=by
 have ht:=(gSi.1 hg).1;have s:=h.stp hg hp;have pht:phAt H t=some p:=by unfold phAt;rw[hg];exact hp
 have live:∀e∈H.live,p≠.find e.1->e∈(QC H t p).live:=λe he hne=>by
  by_cases hf:isF p
  ·obtain⟨_,_,_,el,efi⟩:=st_F h hg hp hf;by_cases hx:∃y,p=.find y
   ·obtain⟨y,rfl⟩:=hx;cases hm:mget H.live y with
    | none=>rw[((efi y rfl).1 hm).2.2];exact he
    | some b=>
     rw[((efi y rfl).2 b hm).2];exact GD.2 ⟨he,λhy=>hne (by rw[hy])⟩
   ·rw[(el λy hy=>hx ⟨y,hy⟩).2];exact he
  ·obtain⟨cl,sz,hr⟩:=Wmf h hg hp hf;obtain⟨_,ef⟩:=st_M h hg hp hr;rcases ef with⟨_,_,_,e2,_⟩|⟨_,_,_,e4⟩|⟨_,_,e3,e4⟩
   ·rw[e2];exact he
   ·rw[e4];exact he
   ·rw[e4];exact(VY e3).2 (.inl he)
 have nof:∀y,(Wt H t p).2.1≠some (.find y):=λy hy=>by
  by_cases hf:isF p
  ·obtain⟨_,_,ef,_⟩:=st_F h hg hp hf;rcases ef with⟨p',g',e1,_,e3,_⟩|e1
   ·rw[e1]at hy;exact e3 y (Option.some.inj hy)
   ·rw[e1]at hy;cases hy
  ·obtain⟨cl,sz,hr⟩:=Wmf h hg hp hf;obtain⟨_,ef⟩:=st_M h hg hp hr;rcases ef with⟨p',g',e1,_,_,e4,_⟩|⟨e1,_⟩|⟨e1,_⟩
   ·rw[e1]at hy;cases hy;exact e4.elim
   ·rw[e1]at hy;cases hy
   ·rw[e1]at hy;cases hy
 refine⟨s.hi,Uy H t p,λe he hs=>⟨live e he λhx=>hs.1 t (by rw[pht,hx]),h.kl s.ks e he,λj=>?_⟩⟩;by_cases hj:j=t
 ·subst hj;obtain⟨g',hg',hp'⟩:=U4 (p:=p) ht;unfold phAt;rw[hg'];show g'.ph≠_;rw[hp'];exact nof _
 ·unfold phAt;rw[Up p hj];exact hs.1 j
theorem DoE.start (h:HI H held s0){d:Deed}{x:Int}{kind size align addr:Int}(ha:I63 addr)(hk:kind=1->d.kd=6/\addr=x)(hk2:kind=0\/kind=1){t:Nat}{p:Ph}{thread:Int}(hs:Kr H thread kind size align addr=.inr (t,p)):DoE H d x (setPh H t (some p)):=by
 rcases Vp H thread kind size align addr with⟨e,he,_⟩|⟨t',p',g,hth,hg,hn,hq,hs'⟩
 ·rw[he]at hs;cases hs
 ·rw[hs']at hs;obtain⟨rfl,rfl⟩:t'=t/\p'=p:=by cases hs;exact⟨rfl,rfl⟩
  have hng:∀s a,p'≠.give s a:=λs a e=>by
   subst e;unfold reqH at hq;split at hq
   ·split at hq
    ·split at hq
     ·split at hq<;>cases hq
     ·cases hq
    ·cases hq
   ·split at hq
    ·cases hq
    ·split at hq<;>cases hq
  have hi:=h.setPh hg hn (Gw (g:=g) hq ha (Uz h hg hn)) hng;refine⟨⟨_,_,hi⟩,Q2 _ _ _,λe he hsf=>⟨he,λ_ _ _=>rfl,λj=>?_⟩⟩;by_cases hj:j=t'
  ·subst hj;obtain⟨g2,hg2,hp2⟩:=WeS (H:=H) (p:=some p') (gSi.1 hg).1;unfold phAt;rw[hg2];show g2.ph≠_;rw[hp2];intro hx;cases hx;unfold reqH at hq;rcases hk2 with rfl|rfl
   ·simp at hq;obtain⟨_,hq⟩:=hq;split at hq<;>(obtain⟨_,hq⟩:=hq;cases hq)
   ·simp at hq;obtain⟨k1,k2⟩:=hk rfl;have h8:=h.size8 he;exact hsf.2 ⟨.inr (.inr k1),by omega,by omega⟩
  ·rw[Wbl hg _ hj];exact hsf.1 j
end Go.Ar
namespace Go.Proofs
open Go.Vc
set_option maxRecDepth 100000
def WJ.h:Hn:=.q .o1 (.q .o2 (.q (.q .o2 (.c (.q .o1 .l) .l)) (.q .o7 (.q .o7 (.q .o8 (.q .o8 (.q .o7 (.q .o8 (.q .o9 (.q .o8 (.q (.reg (.seq [.op,.op,.op,.grd true 2 [.op,.op],.op,.grd true 2 [.op,.op],.op,.grd true 2 [.op,.op],.op,.grd true 3 (RI.ops 3),.op,.grd true 2 [.op,.op],.op,.grd true 3 (RI.ops 3),.op,.grd true 2 [.op,.op],.op,.grd true 2 [.op,.op],.op,.grd true 2 [.op,.op],.op,.grd true 2 [.op,.op],.op,.grd true 2 [.op,.op],.op,.grd true 2 [.op,.op],.op,.grd true 2 [.op,.op],.op])) .l)))))))))))
def WJ.v (a:Hp)(b:Bool->Hp->Prop):Prop:=XB.c a λc d=>If c.isNone (b false d) (ZY.c c 24 8 d λe f g=>YR.c c 0 0 24 g λh i j=>YR.c c 0 h 20 j λk l m=>YR.c c 0 h 300 m λn o p=>Qm.c c 0 (ByteArray.mk #[97,98,99]) p λq r s=>Xn.c c q s λt u v=>Ar .i64 (q+8) λw=>Xn.c c w v λx y z=>Ql.c c q z λaa ab ac=>JnB (λad ae=>JnB (λaf ag=>JnB (λah ai=>JnB (λaj ak=>JnB (λal am=>JnB (λan ao=>JnB (λap aq=>JnB (λar au=>JnB (λav aw=>JnB (λax ay=>JnB (λaz a0=>JnB (λa1 a2=>JnB (λa3 a4=>b a3 a4) λa5=>If a1 (a5 (ab==0) a2) (a5 false a2)) λa6=>If az (a6 (aa.toList==(ByteArray.mk #[97,98,99]).toList) a0) (a6 false a0)) λa7=>If ax (a7 (x==6513249) ay) (a7 false ay)) λa8=>If av (a8 (t==3) aw) (a8 false aw)) λa9=>If ar (a9 (r==0) au) (a9 false au)) λba=>If ap (ba (o==0) aq) (ba false aq)) λbb=>If an (bb (n != 0) ao) (bb false ao)) λbc=>If al (bc (n != h) am) (bc false am)) λbd=>If aj (bd (l==0) ak) (bd false ak)) λbe=>If ah (be (k==h) ai) (be false ai)) λbf=>If af (bf (i==0) ag) (bf false ag)) λbg=>If ad (bg (h==4096) ae) (bg false ae)) λbh=>If (e==24) (bh (f==0) ac) (bh false ac))
theorem WJ.o {a b}(c:WJ.v a b):WJ.c a b:=Wa Tryz.func18 (x:=WJ.h) (R0 c)
def XX.h:Hn:=.q .o3 (.q (.q (.reg (.seq [.op,.op,.op,.grd false 3 (RI.ops 3)])) (.c (.q .o2 .l) .l)) (.q .o3 (.q (.q .o2 (.c (.q .o2 .l) .l)) (.q .o1 (.q (.q .o1 (.k (.loop [(9,.one .s),(10,.I)] (.q (.q .o4 (.c .l .l)) (.q (.k (.q (.q .o6 (.c .l .l)) (.q (.o 14) (.q .o2 (.c .o5 .l))))) .o3))))) (.q .o4 .l))))))
def XX.v (a b c d e f:Int)(g:Sl)(h:Int)(i:Hp)(j:Option Addr->Sl->Hp->Prop):Prop:=Nw (.cells #[.I a,.I b,.I c,.I d,.I e,.I f] 46 (0,0)) i λk l=>LdI .i64 (k.add 0) l λm=>LdI .i64 (k.add 1) l λn=>LdI .i64 (k.add 2) l λo=>LdI .i64 (k.add 3) l λp=>LdI .i64 (k.add 4) l λq=>LdI .i64 (k.add 5) l λr=>WL.c m n o p q r l λs t=>JnB (λu v=>If u (j none ⟨none,0,0⟩ v) (LdI .i64 (k.add 0) v λw=>LdI .i64 (k.add 1) v λx=>LdI .i64 (k.add 2) v λy=>LdI .i64 (k.add 3) v λz=>LdI .i64 (k.add 4) v λaa=>LdI .i64 (k.add 5) v λab=>Wu.c w x y z aa ab v λac ad=>If ac.isNone (j none ⟨none,0,0⟩ ad) (Xo [.s,(.i .i64)] (λae=>ae ⟨none,0,0⟩ 0 ad) λaf (ag:Sl) (ah:Int) ai=>If (ah<((g.len:Nat):Int)) (Ix g.a g.len ah 8 λaj=>LdI .i64 (aj.add 0) ai λak=>If (ak≥20) (Ar .i64 (ah+1) λal=>af ag al ai) (Ix g.a g.len ah 8 λam=>LdI .i64 (am.add 0) ai λan=>LdI .i64 (am.add 1) ai λao=>LdI .i64 (am.add 2) ai λap=>LdI .i64 (am.add 3) ai λaq=>LdI .i64 (am.add 4) ai λar=>LdI .i64 (am.add 5) ai λau=>LdI .i64 (am.add 6) ai λav=>LdT (am.add 7) ai λaw=>Yc.c ac ag an ao ap aq ar au av aw ai λax ay az a0=>If (az>0) (Nw (.cells #[.I az] 3 (0,0)) a0 λa1 a2=>App ag 1 8 3 [.I 0] ⟨some a1,1,1⟩ a2 λa3 a4=>Ar .i64 (ah+1) λa5=>af a3 a5 a4) (Ar .i64 (ah+1) λa6=>af ag a6 a0))) (j ac ag ai)))) λa7=>If s (a7 true t) (Xz.c g h t λa8 a9=>a7 a8 a9)
theorem XX.o {a b c d e f g h i j}(k:XX.v a b c d e f g h i j):XX.c a b c d e f g h i j:=Wa Tryz.func19 (x:=XX.h) (R0 k)
def W8.h:Hn:=.q .o1 (.q (.q .o1 (.k (.loop [(3,.I)] (.q (.q .o5 (.c .l .l)) (.q (.k (.q .o4 (.c (.q .o1 .l) .l))) .o3))))) (.q .o1 .l))
def W8.v (a:R2)(b:Hp)(c:Bool->Hp->Prop):Prop:=Xo [(.i .i64)] (λd=>d 0 b) λe (f:Int) g=>XH.c a g λh i j k l m=>If (f<j) (YO.c a f m λn o=>If (!(n.toList==(ByteArray.mk #[]).toList)) (c true o) (Ar .i64 (f+1) λp=>e p o)) (c false m)
theorem W8.o {a b c}(d:W8.v a b c):W8.c a b c:=Wa Tryz.func21 (x:=W8.h) (R0 d)
def Xz.h:Hn:=.q .o1 (.q (.q .o3 (.c (.q .o1 .l) .l)) (.q .o1 (.q (.q .o1 (.k (.loop [(5,.I),(6,.I)] (.q (.q .o4 (.c .l .l)) (.q (.k (.q .o9 (.q .o2 (.c (.q .o1 .l) .l)))) .o3))))) (.q .o1 .l))))
def Xz.v (a:Sl)(b:Int)(c:Hp)(d:Bool->Hp->Prop):Prop:=Xv.c a b c λe f=>If e (d true f) (Xo [(.i .i64),(.i .i64)] (λg=>g 0 0 f) λh (i:Int) (j:Int) k=>If (j<((a.len:Nat):Int)) (Ix a.a a.len j 8 λl=>LdT (l.add 7) k λm=>Ar .i64 (i+((m.size:Nat):Int)) λn=>If (n>5000) (d true k) (Ar .i64 (j+1) λo=>h n o k)) (d false k))
theorem Xz.o {a b c d}(e:Xz.v a b c d):Xz.c a b c d:=Wa Tryz.func29 (x:=Xz.h) (R0 e)
end Go.Proofs
namespace Go.Ar
open Go Go.Vc Go.Proofs
variable {U w w':Hp}{F P Q X:Rg}{L:LayH}{H H':Hw}{held:List Pc}{s0:Sp}{t n:Nat}{g:Th}
set_option maxRecDepth 8000 in
theorem Wnq (h:HH U F L H)(hi:HI H held s0)(hc:CfOk H)(h208:H.cf.pages<=208){addrs:Sl}{ad:List Int}(hs:SlR addrs 1 (WB ad) U X)(d:Deed)(di:DeedI d){R:Int->Int->Int->Hp->Prop}
 (hR:∀a e n σ' ts' H',Ext F U σ'->HH σ' (Grow F U) {L with ts:=ts'} H'->DoE H d (atV ad d) H'->R a e n σ') :
 Yc.c (some ⟨L.p,0,none⟩) addrs d.kd d.th d.a d.b d.of d.pl d.va d.s U R:=by
 refine Yc.o ?_;unfold Yc.v;refine nw (cs:=WcW d) λv hz e hb=>hb.rI rfl (hb.rI rfl (hb.rI rfl (hb.rI rfl (hb.rI rfl (hb.rI rfl (hb.rI rfl (hb.rT rfl ?_)))))));refine Wnm ((SlR.loc _ _ _).keep0 ((SlR.loc _ _ _).cut hs) e) d λv1 e1=>?_;have K:=((HK.start h).box e hz).fr e1;have hb1:=e1.blk hb id;have hat:=Wna (ad:=ad) di;generalize hx:atV ad d=x at hat hR;refine hb1.rI rfl (iff_ (λhk=>?_) λhk0=>?_)
 ·obtain⟨H',a,er,hw,o,me⟩:=Wdj hi d.th d.a d.b;refine hb1.rI rfl (hb1.rI rfl (hb1.rI rfl (KR WbP K.h hc.2.2 hw λv2 ts e2 h2=>?_)));have K2:=K.to e2 h2 λb _ hb=>hb;exact hR _ _ _ v2 ts H' K2.e (K2.fin h) (DoE.op hi o λe he _=>Wjc me e he)
 refine iff_ (λhk=>?_) λhk1=>?_
 ·obtain⟨H',er,hw,o,fe⟩:=Wgb hi d.th x hat.2;refine hb1.rI rfl (WbK WbP K.h hc.2.2 hw λv2 ts e2 h2=>?_);have K2:=K.to e2 h2 λb _ hb=>hb;exact hR _ _ _ v2 ts H' K2.e (K2.fin h) (DoE.free hi (by simpa using hk) o fe)
 refine iff_ (λhk=>?_) λhk2=>?_
 ·obtain⟨H',er,hw,o,le⟩:=WdG hi d.th;refine hb1.rI rfl (WhP WbP K.h hc.2.2 hw λv2 ts e2 h2=>?_);have K2:=K.to e2 h2 λb _ hb=>hb;exact hR _ _ _ v2 ts H' K2.e (K2.fin h) (DoE.op hi o λe he _=>by rw[le];exact he)
 refine iff_ (λhk=>?_) λhk3=>?_
 ·refine hb1.rI rfl (Hg K.h x d.va hat.2 λv2 e2 h2=>?_);have K2:=K.to e2 h2 λb _ hb=>hb;exact hR _ _ _ v2 L.ts _ K2.e (K2.fin h) (DoE.write hi (by simpa using hk) d.va)
 refine iff_ (λhk=>?_) λhk4=>?_
 ·refine VH K.h x hat.2 λv2 e2=>?_;have K2:=K.fr e2;exact hR _ _ _ v2 L.ts _ K2.e (K2.fin h) (DoE.same hi d x)
 refine iff_ (λhk=>?_) λhk5=>?_
 ·refine hb1.rI rfl (hb1.rI rfl (hb1.rI rfl (Wat K.h hc.2.2 d.th 0 d.a d.b 0 (λer he hne v2 e2 h2=>?_) λt p hst hth ht v2 e2 h2=>?_)))
  ·have K2:=K.to e2 h2 λb _ hb=>hb;exact hR _ _ _ v2 L.ts _ K2.e (K2.fin h) (DoE.same hi d x)
  ·have K2:=K.to e2 h2 λb _ hb=>hb;exact hR _ _ _ v2 L.ts _ K2.e (K2.fin h) (DoE.start hi (by unfold I63;decide) (λh=>by cases h) (.inl rfl) hst)
 refine iff_ (λhk=>?_) λhk6=>?_
 ·refine hb1.rI rfl (Wat K.h hc.2.2 d.th 1 0 0 x (λer he hne v2 e2 h2=>?_) λt p hst hth ht v2 e2 h2=>?_)
  ·have K2:=K.to e2 h2 λb _ hb=>hb;exact hR _ _ _ v2 L.ts _ K2.e (K2.fin h) (DoE.same hi d x)
  ·have K2:=K.to e2 h2 λb _ hb=>hb;exact hR _ _ _ v2 L.ts _ K2.e (K2.fin h) (DoE.start hi hat.2 (λ_=>⟨by simpa using hk,rfl⟩) (.inr rfl) hst)
 refine iff_ (λhk=>?_) λhk7=>?_
 ·refine hb1.rI rfl ?_;by_cases hst:∃(t:Nat) (g:Th) (p:Ph),d.th=t/\H.ths[t]?=some g/\g.ph=some p
  ·obtain⟨t,g,p,hth,hg,hp⟩:=hst;rw[hth];refine Wfk WbP K.h hg hp (hi.stp hg hp).ok λv2 ts e2 h2=>?_;have K2:=K.to e2 h2 λb _ hb=>hb;refine nw (cs:=[.int .i64 0,.int .i64 0]) λv3 hz3 e3 hb3=>hb3.s1 (by simp) λv4 o4 b4=>b4.s1 (by simp) λv5 o5 b5=>?_;have K5:=((K2.box e3 hz3).own o4 (.inr rfl)).own o5 (.inr rfl);have fin:∀a e n,R a e n v5:=λa e n=>hR a e n v5 ts _ K5.e (K5.fin h) (DoE.step hi hg hp);refine QD (λr w=>w=v5) (λr w hw=>?_) λJ hJ=>ifF rfl (hJ _ _ rfl);subst hw;exact iff_ (λ_=>fin _ _ _) λ_=>b5.rI rfl (b5.rI rfl (arW (b5.rI rfl (fin _ _ _))))
  ·refine Wix K.h d.th (λt hth ht=>?_) λv2 er e2 hne=>?_
   ·obtain⟨x',g,_,hg⟩:=h.th ht;unfold phAt;rw[hg];cases hp:g.ph with
    | none=>exact hp
    | some p=>exact(hst ⟨t,g,p,hth,hg,hp⟩).elim
   ·have K2:=K.fr e2;refine nw (cs:=[.int .i64 0,.int .i64 0]) λv3 hz3 e3 hb3=>hb3.s1 (by simp) λv4 o4 b4=>b4.s1 (by simp) λv5 o5 b5=>?_;have K5:=((K2.box e3 hz3).own o4 (.inr rfl)).own o5 (.inr rfl);refine QD (λr w=>w=v5) (λr w hw=>?_) λJ hJ=>ifT (by simpa using hne) (hJ _ _ rfl);subst hw;have fin:∀a e n,R a e n w:=λa e n=>hR a e n w L.ts _ K5.e (K5.fin h) (DoE.same hi d x);exact iff_ (λ_=>fin _ _ _) λ_=>b5.rI rfl (b5.rI rfl (arW (b5.rI rfl (fin _ _ _))))
 refine iff_ (λhk=>?_) λhk8=>?_
 ·have rel:=Wka hi d.a;refine hb1.rI rfl (WdK K.h d.a di.a.2 (λn A hn hA=>?_) (λn hn=>?_) (λhneg=>?_) λhpos v2 e2 h2=>?_)
  ·obtain⟨held',s0',h'⟩:=(rel n).1.hi;exact h'.few (by rw[(rel n).1.kp.2.1];exact h208) hA
  ·have:=(rel n).2;have:=h.s.a2;omega
  ·exact hR _ _ _ v1 L.ts _ K.e (K.fin h) (DoE.same hi d x)
  ·have K2:=K.to e2 h2 λb _ hb=>hb;exact hR _ _ _ v2 L.ts _ K2.e (K2.fin h) (DoE.ar (rel _).1)
 refine iff_ (λhk=>?_) λhk9=>?_
 ·have tr:=WhK hi;refine WjD K.h (λn hn=>?_) λv2 e2 h2=>?_
  ·have:=(tr n).2;have:=h.s.a2;omega
  ·have K2:=K.to e2 h2 λb _ hb=>hb;exact hR _ _ _ v2 L.ts _ K2.e (K2.fin h) (DoE.ar (tr _).1)
 refine iff_ (λhk=>?_) λhk10=>?_
 ·have ti:=WgH hi;refine Wj1 K.h (λn A hn hA=>?_) λv2 e2 h2=>?_
  ·obtain⟨held',s0',h'⟩:=(ti n).hi;exact(h'.wi.ga n A hA).traI
  ·have K2:=K.to e2 h2 λb _ hb=>hb;exact hR _ _ _ v2 L.ts _ K2.e (K2.fin h) (DoE.ar (ti _))
 exact hR _ _ _ v1 L.ts _ K.e (K.fin h) (DoE.same hi d x)
structure PlayOk (σ0 U:Hp) (L:LayH) (H:Hw) (held:List Pc) (s0:Sp) (P Q:Rg) (addrs:Sl) (ad:List Int):Prop where
 e:Ext0 σ0 U
 h:HH U P L H
 hi:HI H held s0
 cf:CfOk H
 pg:H.cf.pages<=128
 pP:∀b,P b->σ0.size<=b/\b<U.size
 pQ:∀b,Q b->σ0.size<=b/\b<U.size/\¬P b
 row:RowR addrs 1 (WB ad) U Q
 al:ad.length<=60
 g0:Off (λb=>σ0.size<=b)/\¬σ0.size<=1
variable {σ0:Hp}{addrs:Sl}{ad:List Int}
theorem PlayOk.step (p:PlayOk σ0 U L H held s0 P Q addrs ad){ts':List LayT}(e:Ext P U w)(h':HH w (Grow P U) {L with ts:=ts'} H'){held':List Pc}{s0':Sp}(hi':HI H' held' s0')(k:Z3 H' H) :
 PlayOk σ0 w {L with ts:=ts'} H' held' s0' (Cut (Grow P U) w) Q addrs ad:=by
 have hz:=e.1;refine⟨Ext.newT p.e e λb hb=>.inr (p.pP b hb).1,h'.cut,hi',p.cf.keep k,by rw[k.2.1];exact p.pg,λb hb=>⟨?_,hb.2⟩,λb hb=>?_,(RowR.loc _ _ _).keep p.row e λb _ hq hp=>(p.pQ b hq).2.2 hp,p.al,p.g0⟩
 ·have:=p.e.1;rcases hb.1 with h1|h1
  ·exact(p.pP b h1).1
  ·omega
 ·obtain⟨q1,q2,q3⟩:=p.pQ b hb;exact⟨q1,by omega,λhx=>by
   rcases hx.1 with h1|h1
   ·exact q3 h1
   ·omega⟩
theorem PlayOk.fr (p:PlayOk σ0 U L H held s0 P Q addrs ad)(e:Ext0 U w):PlayOk σ0 w L H held s0 P Q addrs ad:=
 ⟨p.e.trans e,p.h.keep0 e,p.hi,p.cf,p.pg,λb hb=>⟨(p.pP b hb).1,by have:=(p.pP b hb).2;have:=e.1;omega⟩,λb hb=>⟨(p.pQ b hb).1,by have:=(p.pQ b hb).2.1;have:=e.1;omega,(p.pQ b hb).2.2⟩,(RowR.loc _ _ _).keep0 p.row e,p.al,p.g0⟩
theorem PlayOk.out (p:PlayOk σ0 U L H held s0 P Q addrs ad){T:Rg}(e:Ext T U w)(hT:∀b,b<U.size->T b->¬P b/\¬Q b/\σ0.size<=b):PlayOk σ0 w L H held s0 P Q addrs ad:=by
 have hz:=e.1;have e':Ext (λb=>T b/\b<U.size) U w:=⟨e.1,λb hb hf=>e.2 b hb λht=>hf ⟨ht,hb⟩⟩;refine⟨Ext.newT p.e e' λb hb=>.inr (hT b hb.2 hb.1).2.2,p.h.keep e' (λb hb hp ht=>(hT b hb ht.1).1 hp) (λb hb=>?_) (λhb=>?_),p.hi,p.cf,p.pg,λb hb=>⟨(p.pP b hb).1,by have:=(p.pP b hb).2;omega⟩,λb hb=>⟨(p.pQ b hb).1,by have:=(p.pQ b hb).2.1;omega,(p.pQ b hb).2.2⟩,(RowR.loc _ _ _).keep p.row e' λb hb hq ht=>(hT b hb ht.1).2.1 hq,p.al,p.g0⟩
 ·exact p.g0.1 b (hT b hb.2 hb.1).2.2
 ·exact p.g0.2 (hT _ hb.2 hb.1).2.2
theorem Woc (hr:RowR addrs 1 (WB ad) U Q)(hl:ad.length<=1000000)(x:Int){e t:Nat}{K:Sl->Hp->Prop}(hK:∀s' w,Ext Q U w->RowR s' 1 (WB (ad++[x])) w (λb=>Q b\/U.size<=b/\b<w.size)->K s' w) :
 Nw (.cells #[.int .i64 x] t (0,0)) U λn v=>App addrs 1 8 e [.int .i64 0] ⟨some n,1,1⟩ v K:=by
 have hal:addrs.len=ad.length:=by have:=hr.1;simp[WB]at this;omega
 refine RowR.push (F:=λb=>Q b\/U.size<=b) (vs:=[.int .i64 x]) ((RowR.loc _ _ _).mono hr λb _ hb=>.inl hb) (λb hb=>.inr hb) rfl rfl (by simp[one1]) (by omega) (by omega) λs' w hsl ew hw=>hK s' w ⟨ew.1,λb hb hq=>ew.2 b hb λhx=>hx.elim hq λhx=>by omega⟩ ?_;have:WB (ad++[x])=WB ad++[.int .i64 x]:=by simp[WB]
 rw[this];refine(RowR.loc _ _ _).mono ((RowR.loc _ _ _).cut hw) λb hb hx=>?_;rcases hx.1 with h1|h1
 ·exact .inl h1
 ·exact .inr ⟨h1,hb⟩
end Go.Ar
namespace Go.Ar
open Go.Vc (mget mset mdel)
def i63 (x:Int):Bool:=decide (x<=9223372036854775807)
def WaV (H:Hw)(t:Nat):Ph->Bool
 | .take k=>decide (k<H.tb.length)&&(match Ka (H.cls k) ((H.thr t).li k)with
  | (some y,_)=>i63 y
  | (none,_)=>true)
 | .transfer k _=>decide (k<H.tb.length)&&(Z5 (H.arn t) (k:Int) != 0 || !(YC (H.arn t) (k:Int)).isEmpty)
 | .central _ _=>true
 | .grow _ _=>true
 | .fill=>match (H.thr t).hands with
  | (k,x::xs)::_=>decide (k<H.tb.length)&&(i63 x&&decide (((H.thr t).li k).os.length+xs.length<=256))
  | _=>false
 | .large m=>decide (Z4 (H.arn t) H.sp (m:Int) 1<=1000000)
 | .find x=>i63 x&&((mget H.live x).isSome&&decide (0<=x))
 | .put k _=>decide (k<H.tb.length) && !(H.thr t).hands.isEmpty
 | .back=>match (H.thr t).hands with
  | (_,xs)::_=>(xs.all λx=>i63 x&&decide (0<=Yk H.ars x))&&decide (xs.length<=1000000)
  | _=>false
 | .give _ a=>decide (0<=a)&&(decide (a.toNat<H.ars.length)&&H.ars.all λA=>A.runs.all λr=>decide (r.1<=1000000))
 | .drain=>true
theorem WeG {x:Int}(h:i63 x=true):I63 x:=by
 unfold i63 at h;unfold I63;exact zCA h
theorem Wji {H:Hw}{t:Nat}{p:Ph}(h:WaV H t p=true):Wf3 H t p:=by
 cases p with
 | take k=>
  simp only[WaV,zF,zP]at h;refine⟨h.1,λy l hy=>?_⟩;have h2:=h.2;rw[hy]at h2;exact WeG h2
 | transfer k w=>
  simp only[WaV,zF,zP,zAR]at h;refine⟨h.1,λh0 he=>?_⟩;rw[h0,he]at h;simp at h
 | central k w=>trivial
 | grow k w=>trivial
 | fill=>
  simp only[WaV]at h;split at h
  ·rename_i k x xs r hh;simp only[zF,zP]at h;exact⟨k,x,xs,r,hh,h.1,WeG h.2.1,h.2.2⟩
  ·cases h
 | large m=>
  simp only[WaV,zP]at h;exact h
 | find x=>
  simp only[WaV,zF,zP]at h;exact⟨WeG h.1,λhn=>by rw[hn]at h;simp at h,λb _=>h.2.2⟩
 | put k x=>
  simp only[WaV,zF,zP]at h;exact⟨h.1,λhe=>by rw[he]at h;simp at h⟩
 | back=>
  simp only[WaV]at h;split at h
  ·rename_i k xs r hh;simp only[zF,zP,zu]at h;exact⟨k,xs,r,hh,λx hx=>⟨WeG (h.1 x hx).1,(h.1 x hx).2⟩,h.2⟩
  ·cases h
 | give s a=>
  simp only[WaV,zF,zP,zu]at h;exact⟨h.1,h.2.1,h.2.2⟩
 | drain=>trivial
def runB:Nat->Hw->Nat->Ph->Option (Hw×Int×Int)
 | 0,_,_,_=>none
 | n+1,H,t,p=>if WaV H t p&&decide ((H.thr t).hands.length<=900)then(match (Wt H t p).2.1 with
  | none=>some (QC H t p,(Wt H t p).2.2.1,(Wt H t p).2.2.2)
  | some p'=>runB n (QC H t p) t p')else none
theorem WgA:∀{n:Nat} {H:Hw} {t:Nat} {p:Ph} {r:Hw×Int×Int},runB n H t p=some r->∃m,RunN m H t p r.1 r.2.1 r.2.2
 | 0,_,_,_,_,h=>by simp[runB]at h
 | n+1,H,t,p,r,h=>by
  rw[runB]at h;split at h
  ·rename_i hc;simp only[zF,zP]at hc;have hok:Wbi H t p:=⟨Wji hc.1,λg hg=>by rw[←Ga hg];exact hc.2⟩;split at h
   ·rename_i hn;cases h;exact⟨1,.done hok hn⟩
   ·rename_i p' hs;obtain⟨m,hm⟩:=WgA h;exact⟨m+1,.next hok hs hm⟩
  ·cases h
def WeI (H:Hw)(thread kind size align addr:Int):Option (Hw×Int×Int):=match Kr H thread kind size align addr with
 | .inl e=>if e=0 then none else some (H,0,e)
 | .inr (t,p)=>runB 40 (setPh H t (some p)) t p
theorem WiS {H:Hw}{thread kind size align addr:Int}{r:Hw×Int×Int}(h:WeI H thread kind size align addr=some r):Va H thread kind size align addr r.1 r.2.1 r.2.2:=by
 unfold WeI at h;split at h
 ·rename_i e he;split at h
  ·cases h
  ·rename_i hne;cases h;exact .inl ⟨he,hne,rfl,rfl⟩
 ·rename_i t p he;obtain⟨m,hm⟩:=WgA h;exact .inr ⟨t,p,m,he,hm⟩
def tb8:List Cls:=(WcL 8).map Z9
def w0:Hw:=Ua tb8 ⟨64,1,1,1024,2⟩
def nxt (H:Hw)(kind size addr:Int):Hw×Int×Int:=(WeI H 0 kind size (if kind=0 then 8 else 0) addr).getD (H,0,99)
def w1:Hw×Int×Int:=nxt w0 0 24 0
def w2:Hw×Int×Int:=nxt w1.1 0 300 0
def w2s:Hw:={w2.1 with sp:=U3 w2.1.sp w2.2.1 4096 3}
def w3:Hw×Int×Int:=nxt w2s 1 0 4096
def w4:Hw×Int×Int:=nxt w3.1 0 16 0
def abc:ByteArray:=ByteArray.mk #[97,98,99]
def w5:Hw:={w4.1 with sp:=putS w4.1.sp w4.2.1 abc 1}
theorem WnF {H:Hw}{kind size addr:Int}(h:(nxt H kind size addr).2.2≠99):Va H 0 kind size (if kind=0 then 8 else 0) addr (nxt H kind size addr).1 (nxt H kind size addr).2.1 (nxt H kind size addr).2.2:=by
 unfold nxt at *;cases hw:WeI H 0 kind size (if kind=0 then 8 else 0) addr with
 | none=>rw[hw]at h;exact absurd rfl h
 | some r=>exact WiS hw
theorem Woe:w1.2=(4096,0):=by decide +kernel
theorem w1_u:ZJ w1.1 4096=some 24/\Qp w1.1 0=0/\Vj w1.1.tb 20 8=(24,0):=by decide +kernel
theorem w2_e:w2.2.2=0:=by decide +kernel
theorem Wkf:w2.2.1=5120/\ZJ w2.1 5120=some 320/\Vj w1.1.tb 300 8=(320,0):=by decide +kernel
theorem Wm6:w4.2=(4352,0):=by decide +kernel
theorem Wi1:Vg w5.sp 4352=3/\Vg w5.sp 4360=6513249/\(getV w5 4352).toList=abc.toList/\getE w5 4352=0/\ZJ w5 4352=some 16:=by decide +kernel
theorem Wmi:Qp w0 0=0/\Vj w0.tb 24 8=(24,0)/\Qp w3.1 0=0:=by decide +kernel
theorem Wnp:Qo (tb8.map clsT)=true:=by decide +kernel
theorem w0_c:CfOk w0:=⟨by decide,by decide +kernel,Wnp⟩
theorem nxtW {H:Hw}{kind size addr al a e:Int}{N:Hw×Int×Int}(hN:N=nxt H kind size addr)(h:N.2=(a,e))(hne:e≠99)(hal:al=if kind=0 then 8 else 0):Va H 0 kind size al addr N.1 a e:=by
 have h1:=WnF (H:=H) (kind:=kind) (size:=size) (addr:=addr) (by rw[←hN,h];exact hne);rw[←hN,h,←hal]at h1;exact h1
theorem w1_w:Va w0 0 0 24 8 0 w1.1 4096 0:=nxtW rfl Woe (by decide) rfl
theorem w2_w:Va w1.1 0 0 300 8 0 w2.1 5120 0:=nxtW rfl (Prod.ext Wkf.1 w2_e) (by decide) rfl
theorem w3_2:w3.2=(0,0):=by decide +kernel
theorem w3_w:Va w2s 0 1 0 0 4096 w3.1 0 0:=nxtW rfl w3_2 (by decide) rfl
theorem w4_w:Va w3.1 0 0 16 8 0 w4.1 4352 0:=nxtW rfl Wm6 (by decide) rfl
theorem Wob:w2s = {w2.1 with sp:=U3 w2.1.sp 5120 4096 ((min (320:Int) 24).toNat/8)}:=by
 unfold w2s;rw[Wkf.1];rfl
theorem w5_e:w5 = {w4.1 with sp:=putS w4.1.sp 4352 abc ((abc.size+7)/8)}:=by
 unfold w5;rw[Wm6];rfl
theorem w0_u:ZJ w0 0=none:=by decide +kernel
theorem w0_e:Ua ((WcL 8).map Z9) ⟨(64:Int).toNat,(1:Int).toNat,(1:Int).toNat,(1024:Int).toNat,(2:Int).toNat⟩=w0:=rfl
end Go.Ar
namespace Go.Proofs
open Go.Vc
set_option maxRecDepth 100000
end Go.Proofs
namespace Go.Ar
open Go Go.Vc Go.Proofs
variable {U u u':Hp}{F:Rg}{L:LayH}{H H':Hw}{N:Nat}
attribute [local irreducible] w0 w1 w2 w2s w3 w4 w5 nxt tb8
theorem cfSp (h:CfOk H)(sp:Sp):CfOk {H with sp:=sp}:=⟨h.1,h.2.1,h.2.2⟩
theorem HH.norm (h:HH u (λb=>N<=b) L H)(hN:N<=u.size){L':LayH}(h':HH u' (Grow (λb=>N<=b) u) L' H'):HH u' (λb=>N<=b) L' H':=
 h'.mono (λb _ hb=>by
  have hb:N<=b\/u.size<=b:=hb;show N<=b;omega) h.o h.o2
theorem Wkz (g:Gl U)(gd:Gd U){R:Option Addr->Hp->Prop}(hR:∀σ' L N,Ext0 U σ'->U.size<=N->N<=σ'.size->HH σ' (λb=>N<=b) L w0->R (some ⟨L.p,0,none⟩) σ'):XB.c U R:=by
 refine XB.o ?_;unfold XB.v;refine Wu.o ?_;unfold Wu.v;refine nw (cs:=[.int .i64 8,.int .i64 64,.int .i64 1,.int .i64 1,.int .i64 1024,.int .i64 2]) λv hz e hb=>hb.rI rfl ?_;refine WgR 8 (by decide) (by decide) λs v1 e1 ha=>?_;have hb1:=e1.blk hb id;have e01:=e.trans e1;refine hb1.rI2 rfl (hb1.rI2 rfl (hb1.rI2 rfl (hb1.rI2 rfl (hb1.rI2 rfl ?_))));refine WdU ha (g.keep0 e01) (gd.keep0 e01) 64 1 1 1024 2 (λhv=>?_) (λ_ hc=>?_) λ_ _ v2 L e2 h2=>?_
 ·have:=Wbq 8 (by decide) (by decide);rw[show((8:Nat):Int)=8 from rfl]at this;rw[this]at hv;cases hv
 ·exact absurd hc (by decide)
 ·rw[w0_e]at h2;exact ifF rfl (hR v2 L v1.size (e01.trans e2) e01.1 e2.1 h2)
set_option maxRecDepth 8000 in
theorem Uu (g:Gl U)(gd:Gd U){R:Bool->Hp->Prop}(hR:∀σ',Ext0 U σ'->R true σ'):WJ.c U R:=by
 refine WJ.o ?_;unfold WJ.v;refine Wkz g gd λv L N e hsN hNv h0=>ifF rfl ?_;have c0:=w0_c;refine WbN h0 c0 24 8 λv1 e1=>?_;have h1:=h0.keep0 e1;have n1:N<=v1.size:=zN hNv e1.1;rw[Wmi.2.1];have hw1:=w1_w;refine Hu WbP h1 c0 (ReaR.first Wmi.1 rfl (by decide) (by decide) hw1) (λb hb=>?_) λv2 ts2 e2 h2'=>?_
 ·rw[w0_u]at hb;cases hb
 have h2:=h1.norm n1 h2';have n2:N<=v2.size:=zN n1 e2.1;have c1:=c0.keep (VJ hw1);have hu1:∀b,ZJ w1.1 4096=some b->0<=b/\b<=1000000000:=λb hb=>by
  rw[w1_u.1]at hb;cases hb;decide
 refine Hu WbP h2 c1 (ReaR.same (u:=24) w1_u.2.1 (by decide) (by decide) (by decide) w1_u.1 (by rw[w1_u.2.2];decide)) hu1 λv3 ts3 e3 h3'=>?_;have h3:=h2.norm n2 h3';have n3:N<=v3.size:=zN n2 e3.1;have hw2:=w2_w;have hw3:=w3_w;rw[Wob]at hw3;refine Hu WbP h3 c1 (ReaR.moved (u:=24) (u2:=320) w1_u.2.1 (by decide) (by decide) (by decide) w1_u.1 (by rw[Wkf.2.2];decide) hw2 Wkf.2.1 (by decide) (by decide) (by decide) hw3) hu1 λv4 ts4 e4 h4'=>?_;have h4:=h3.norm n3 h4';have n4:N<=v4.size:=zN n3 e4.1;have c2:=c1.keep (VJ hw2);have c3:CfOk w3.1:=CfOk.keep (H:={w2.1 with sp:=U3 w2.1.sp 5120 4096 ((min (320:Int) 24).toNat/8)}) (cfSp c2 _) (VJ hw3);have hw4:Va w3.1 0 0 ((((abc.size+7)/8+1)*8:Nat):Int) 8 0 w4.1 4352 0:=w4_w;refine WiD WbP h4 c3 (s:=abc) (PutR.ok Wmi.2.2 (by decide) hw4 (by decide) (by decide)) λv5 ts5 e5 h5'=>?_;rw[←w5_e]at h5';have h5:=h4.norm n4 h5';have n5:N<=v5.size:=zN n4 e5.1;have c5:CfOk w5:=by rw[w5_e];exact cfSp (H:=w4.1) (CfOk.keep (H:=w3.1) c3 (VJ hw4)) _
 have e05:Ext0 U v5:=by
  have q1:=e.trans e1;have q2:=Ext.newT q1 e2 λb hb=>.inr (by show U.size<=b;have:N<=b:=hb;omega);have q3:=Ext.newT q2 e3 λb hb=>.inr (by show U.size<=b;have:N<=b:=hb;omega);have q4:=Ext.newT q3 e4 λb hb=>.inr (by show U.size<=b;have:N<=b:=hb;omega);exact Ext.newT q4 e5 λb hb=>.inr (by show U.size<=b;have:N<=b:=hb;omega)
 refine VH h5 4352 (by decide) λv6 e6=>?_;rw[Wi1.1];refine ar (by decide) (by decide) (VH (h5.keep0 e6) 4360 (by decide) λv7 e7=>?_);rw[Wi1.2.1];refine WiG ((h5.keep0 e6).keep0 e7) c5 4352 (by decide) (λu hu=>?_) (λ_=>by decide) λv8 e8=>?_
 ·rw[Wi1.2.2.2.2]at hu;cases hu;decide
 rw[Wi1.2.2.2.1];have hfin:=hR v8 (((e05.trans e6).trans e7).trans e8);refine JnB.intro (ifT rfl (JnB.intro (ifT rfl (JnB.intro (ifT rfl (JnB.intro (ifT rfl (JnB.intro (ifT rfl (JnB.intro (ifT rfl (JnB.intro (ifT rfl (JnB.intro (ifT rfl (JnB.intro (ifT rfl (JnB.intro (ifT rfl (JnB.intro (ifT rfl (JnB.intro (ifT ?_ (JnB.intro (ifT ?_ hfin)))))))))))))))))))))))))
 ·rfl
 ·rw[Wi1.2.2.1];decide +kernel
end Go.Ar
namespace Go.Proofs
open Go.Vc
set_option maxRecDepth 100000
end Go.Proofs
namespace Go.Ar
open Go Go.Vc Go.Proofs
open Go.Vc (mget mset mdel)
variable {U w w':Hp}{F P Q X:Rg}{L:LayH}{H H':Hw}{held:List Pc}{s0:Sp}{t n:Nat}{g:Th}{σ0:Hp}{addrs:Sl}{ad:List Int}{l:Sl}{ds:List Deed}
theorem PlayOk.push (p:PlayOk σ0 U L H held s0 P Q addrs ad){s':Sl}{x:Int}(e:Ext Q U w)(hr:RowR s' 1 (WB (ad++[x])) w (λb=>Q b\/U.size<=b/\b<w.size))(hl:(ad++[x]).length<=60):PlayOk σ0 w L H held s0 P (λb=>Q b\/U.size<=b/\b<w.size) s' (ad++[x]):=by
 have hz:=e.1;have hz0:=p.e.1;refine⟨Ext.newT p.e e λb hb=>.inr (p.pQ b hb).1,p.h.keep e (λb hb hp hq=>(p.pQ b hq).2.2 hp) (λb hb=>p.g0.1 b (p.pQ b hb).1) (λhb=>p.g0.2 (p.pQ _ hb).1),p.hi,p.cf,p.pg,λb hb=>⟨(p.pP b hb).1,by have:=(p.pP b hb).2;omega⟩,λb hb=>?_,hr,hl,p.g0⟩;rcases hb with hb|hb
 ·exact⟨(p.pQ b hb).1,by have:=(p.pQ b hb).2.1;omega,(p.pQ b hb).2.2⟩
 ·exact⟨by omega,hb.2,λhp=>by have:=(p.pP b hp).2;omega⟩
theorem Wf0 (hd:Deeds σ0 l ds)(e:Ext0 σ0 U)(most:Int){R:Bool->Hp->Prop}(hR:∀r,(r=false->(ds.length:Int)<=most)->R r U):Xz.c l most U R:=by
 refine Xz.o ?_;unfold Xz.v;have hl:=hd.len;have hbig:=hd.big;refine Wg0 (ifD (λh1=>hR true λh=>by cases h) λh1=>?_);refine VO (a:=.i .i64) (bb:=.i .i64) (λ(m z:Int) w=>w=U/\∃i:Nat,z=i/\i<=ds.length) (λ_ z _=>ds.length-z.toNat) ⟨rfl,0,rfl,by omega⟩ ?_;rintro(m:Int) (z:Int) w ⟨rfl,i,rfl,hi⟩;refine ifD (λhlt=>?_) λhge=>hR false λ_=>by omega
 have hx:ds[i]?=some (ds[i]'(by omega)):=gGe _;refine hd.rd e hx λb o hc=>?_;refine ldT0 (hc _ e 7 _ rfl) (arW (ifD (λh5=>hR true λh=>by cases h) λh5=>ar (by omega) (by omega) ⟨⟨rfl,i+1,by omega,by omega⟩,by omega⟩))
set_option maxRecDepth 8000 in
theorem WmR (gl:Gl U)(gd:Gd U)(b b1 b2 b3 b4 b5:Int)(hd:Deeds U l ds)(most:Int)(hmost:most<=60){R:Option Addr->Sl->Hp->Prop}(h0:∀σ',Ext0 U σ'->R none ⟨none,0,0⟩ σ')
 (h1:∀σ' L H held s0 P Q addrs ad,PlayOk U σ' L H held s0 P Q addrs ad->R (some ⟨L.p,0,none⟩) addrs σ'):XX.c b b1 b2 b3 b4 b5 l most U R:=by
 refine XX.o ?_;unfold XX.v;have hl:=hd.len;have hbig:=hd.big;refine nw (cs:=[.int .i64 b,.int .i64 b1,.int .i64 b2,.int .i64 b3,.int .i64 b4,.int .i64 b5]) λv hz e hb=>hb.rI rfl (hb.rI rfl (hb.rI rfl (hb.rI rfl (hb.rI rfl (hb.rI rfl (WL.o ?_))))));unfold WL.v;refine nw (cs:=[.int .i64 b,.int .i64 b1,.int .i64 b2,.int .i64 b3,.int .i64 b4,.int .i64 b5]) λv1 hz1 e1 hb1=>hb1.rI2 rfl ?_;have e01:=e.trans e1;have hbv:=e1.blk hb id;refine QD (λr w=>w=v1/\(r=false->b1<=128/\(ds.length:Int)<=most)) (λr w ⟨hw,hr⟩=>?_) λJ hJ=>ifD (λh=>hJ _ _ ⟨rfl,λh=>by cases h⟩) λh=>Wf0 hd e01 most λr hr=>hJ _ _ ⟨rfl,λh'=>⟨by omega,hr h'⟩⟩;subst hw;refine iff_ (λht=>h0 w e01) λhf=>?_;obtain⟨hpg,hlm⟩:=hr hf;refine hbv.rI rfl (hbv.rI rfl (hbv.rI rfl (hbv.rI rfl (hbv.rI rfl (hbv.rI rfl ?_)))));refine WnL (gl.keep0 e01) (gd.keep0 e01) b b1 b2 b3 b4 b5 (λv2 e2=>ifT rfl (h0 v2 (e01.trans e2))) λv2 L0 N H0 e2 hsN hNv hh hn=>ifF rfl ?_;have e02:=e01.trans e2;have p0:PlayOk U v2 L0 H0 [] (Vi H0.cf.pages) (Cut (λb=>N<=b) v2) (λ_=>False) ⟨none,0,0⟩ []:=
  ⟨e02,hh.cut,hn.hi,hn.cf,by have:=hn.pg;omega,λb hb=>⟨by have:=e01.1;have:N<=b:=hb.1;omega,hb.2⟩,λb hb=>hb.elim,⟨rfl,.inl ⟨rfl,rfl⟩⟩,by simp,WnM gl gd⟩
 refine VO (a:=.s) (bb:=.i .i64) (λ(addrs:Sl) (z:Int) w=>∃(i:Nat) (L:LayH) (H:Hw) (held:List Pc) (s0:Sp) (P Q:Rg) (ad:List Int),z=i/\i<=ds.length/\ad.length<=i/\L.p=L0.p/\PlayOk U w L H held s0 P Q addrs ad) (λ_ z _=>ds.length-z.toNat) ⟨0,L0,H0,_,_,_,_,[],rfl,by omega,by simp,rfl,p0⟩ ?_;rintro(addrs:Sl) (z:Int) w ⟨i,L,H,held,s0,P,Q,ad,rfl,hi,hal,hLp,p⟩;refine ifD (λhlt=>?_) λhge=>by rw[←hLp];exact h1 w L H held s0 P Q addrs ad p
 have hx:ds[i]?=some (ds[i]'(by omega)):=gGe _;have hdi:=hd.i _ (zD hx);refine hd.rd p.e hx λba oa hc=>ldI0 (hc _ p.e 0 _ rfl) (ifD (λh20=>?_) λh20=>?_)
 ·exact arN (m:=i+1) (by omega) (by omega) ⟨⟨i+1,L,H,held,s0,P,Q,ad,rfl,by omega,by omega,hLp,p⟩,by omega⟩
 ·refine hd.rd p.e hx λba oa hc=>ldI0 (hc _ p.e 0 _ rfl) (ldI0 (hc _ p.e 1 _ rfl) (ldI0 (hc _ p.e 2 _ rfl) (ldI0 (hc _ p.e 3 _ rfl) (ldI0 (hc _ p.e 4 _ rfl) (ldI0 (hc _ p.e 5 _ rfl) (ldI0 (hc _ p.e 6 _ rfl) (ldT0 (hc _ p.e 7 _ rfl) ?_)))))));rw[←hLp];refine Wnq p.h p.hi p.cf (by have:=p.pg;omega) (RowR.slR p.row) _ hdi λa er nn w3 ts3 H3 e3 h3 de=>?_;obtain⟨held3,s3,hi3⟩:=de.hi;have p3:=p.step e3 h3 hi3 de.kp;refine ifD (λhpos=>?_) λhneg=>?_
  ·refine Woc p3.row (by omega) nn λs' w4 e4 hr4=>?_;have p4:=p3.push e4 hr4 (by simp;omega);exact arN (m:=i+1) (by omega) (by omega) ⟨⟨i+1,{L with ts:=ts3},_,_,_,_,_,ad++[nn],rfl,by omega,by simp;omega,rfl,p4⟩,by omega⟩
  ·exact arN (m:=i+1) (by omega) (by omega) ⟨⟨i+1,{L with ts:=ts3},_,_,_,_,_,ad,rfl,by omega,by omega,rfl,p3⟩,by omega⟩
theorem Wmn {tb:List Cls}{size align:Int}{k:Nat}(h:clsV tb size align=some k):∃c,tb[k]?=some c/\size<=(c.size:Int)/\(c.size:Int)%align=0:=by
 unfold clsV at h;obtain⟨hk,hp,_⟩:=zBC.1 h;simp only[zF,zP,zY]at hp;exact⟨tb[k],gGe hk,hp.1,hp.2⟩
theorem Wlm {tb:List Cls}{size align:Int}(h:size<=16384/\KI size align=true):size<=(Vj tb size align).1/\(Vj tb size align).2=0:=by
 unfold Vj;rw[zB h];refine⟨?_,rfl⟩;cases hc:clsV tb size align with
 | some k=>
  obtain⟨c,h1,h2,_⟩:=Wmn hc;simp only;rw[zL,h1];exact h2
 | none=>simp only;unfold Wag;omega
theorem Wi8 {live:List (Int×Bk)}{x:Int}(b:Bk):mget (mset live x b) x=some b:=by rw[G7,zB rfl]
end Go.Ar
namespace Go.Ar
open Go Go.Vc Go.Proofs
variable {U u w w':Hp}{F B P Q:Rg}{L:LayH}{H H':Hw}{t n:Nat}{g:Th}
end Go.Ar
namespace Go.Proofs
open Go.Vc
set_option maxRecDepth 100000
end Go.Proofs
namespace Go.Ar
open Go Go.Vc Go.Proofs
open Go.Vc (mget mset mdel)
variable {U w w':Hp}{F P Q X S:Rg}{L:LayH}{H H':Hw}{held:List Pc}{s0 sp:Sp}{t n:Nat}{g:Th}{σ0:Hp}{addrs:Sl}{ad:List Int}{l:Sl}{ds:List Deed}
def wrS (sp:Sp)(a:Int)(f:Nat->Int)(n:Nat):Sp:=(List.range n).foldl (λs (i:Nat)=>QT s (a+(i:Int)*8) (f i)) sp
theorem GQ (sp:Sp)(a:Int)(f:Nat->Int)(n:Nat):wrS sp a f (n+1)=QT (wrS sp a f n) (a+(n:Int)*8) (f n):=by
 unfold wrS;rw[zr,zv];rfl
theorem Wck {sp:Sp}{x:Nat}:accE sp ((8*x:Nat):Int)=0↔gf sp.st (x/32)≠0:=by
 unfold accE;rw[zA (by omega),show((8*x:Nat):Int).toNat/256=x/32 by omega];unfold gf;split
 ·rename_i h;rw[h];simp
 ·rename_i h;exact⟨λ_=>h,λ_=>rfl⟩
theorem Wlh (sp:Sp)(a:Nat)(f:Nat->Int):∀n:Nat,(wrS sp ((8*a:Nat):Int) f n).st.length=sp.st.length/\(∀p,gf (wrS sp ((8*a:Nat):Int) f n).st p=0↔gf sp.st p=0) ∧
 ∀w,(wrS sp ((8*a:Nat):Int) f n).wd w=if a<=w/\w<a+n/\gf sp.st (w/32)≠0 then f (w-a)else sp.wd w
 | 0=>⟨rfl,λ_=>Iff.rfl,λw=>by rw[zA (by omega)];rfl⟩
 | n+1=>by
  obtain⟨i1,i2,i3⟩:=Wlh sp a f n;rw[GQ,show((8*a:Nat):Int)+(n:Int)*8=((8*(a+n):Nat):Int) by omega];obtain⟨j1,j2,j3⟩:=Waq (wrS sp ((8*a:Nat):Int) f n) ((8*(a+n):Nat):Int) (f n);refine⟨j1.trans i1,λp=>(j2 p).trans (i2 p),λw=>?_⟩;rw[j3,i3,show((8*(a+n):Nat):Int).toNat/8=a+n by omega];have hacc:=Wck (sp:=wrS sp ((8*a:Nat):Int) f n) (x:=a+n);have hz:=i2 ((a+n)/32);by_cases hw:w=a+n
  ·subst hw;by_cases hm:gf sp.st ((a+n)/32)=0
   ·rw[zA λh=>hacc.1 h.1 (hz.2 hm),zA (by omega),zA λh=>h.2.2 hm]
   ·rw[zB ⟨hacc.2 λh=>hm (hz.1 h),rfl⟩,zB ⟨by omega,by omega,hm⟩]
    congr 1;omega
  ·rw[zA λh=>hw h.2];by_cases hc:a<=w/\w<a+n/\gf sp.st (w/32)≠0
   ·rw[zB hc,zB ⟨hc.1,by omega,hc.2.2⟩]
   ·rw[zA hc,zA λh=>hc ⟨h.1,by omega,h.2.2⟩]
theorem HI.wr (h:HI H held s0)(a:Int)(f:Nat->Int)(n:Nat):∃s0',HI {H with sp:=wrS H.sp a f n} held s0':=by
 induction n with
 | zero=>exact⟨s0,h⟩
 | succ n ih=>
  obtain⟨s0',h'⟩:=ih;rw[GQ];exact⟨_,h'.write (a+(n:Int)*8) (f n)⟩
theorem WdJ (sp:Sp)(x:Nat):Vg sp ((8*x:Nat):Int)=if gf sp.st (x/32)≠0 then sp.wd x else 0:=by
 unfold Vg;by_cases h:gf sp.st (x/32)≠0
 ·rw[zB (Wck.2 h),zB h];congr 1;omega
 ·rw[zA (λhx=>h (Wck.1 hx)),zA h]
structure HpOk (H H':Hw):Prop where
 hi:∃held s0,HI H' held s0
 kp:Z3 H' H
theorem OpOk.hp (o:OpOk H H'):HpOk H H':=⟨o.hi,o.kp⟩
theorem HI.usable (h:HI H held s0){a u:Int}(hu:ZJ H a=some u):8<=u/\u%8=0/\0<=a/\a%8=0/\a+u<=270000/\∃b,mget H.live a=some b/\b.2.1=u:=by
 unfold ZJ at hu;obtain⟨b,hb,hbu⟩:=zBV.1 hu;have h8:=h.size8 (GB hb);simp only at h8;rw[hbu]at h8;exact⟨h8.1,h8.2.2.2.1,h8.2.1,h8.2.2.1,h8.2.2.2.2,b,hb,hbu⟩
end Go.Ar
namespace Go.Proofs
open Go.Vc
set_option maxRecDepth 100000
def WX.h:Hn:=.q .o2 (.q .o8 (.q (.q (.reg (.seq [.op,.op,.op,.grd false 3 (RI.ops 3),.op,.grd false 2 [.op,.op],.op,.grd false 2 [.op,.op]])) (.c (.q .o2 .l) .l)) (.q .o8 (.q (.q .o2 (.c (.q (.reg (.seq [.op,.op,.op,.grd true 1 [.op],.op])) .l) .l)) (.q (.q .o1 (.k (.loop [(13,.I)] (.q (.q .o4 (.c .l .l)) (.q (.k (.q .o7 (.q .o8 (.q (.q (.reg (.seq [.op,.op,.op,.op,.op,.op,.op,.grd false 34 [.op,.op,.op,.op,.op,.op,.op,.grd false 6 (RI.ops 6),.op,.grd false 6 (RI.ops 6),.op,.grd true 3 (RI.ops 3),.op,.grd true 5 (RI.ops 5)]])) (.c .l .l)) .o7)))) .o3))))) (.q .o8 (.q (.reg (.seq [.op,.op,.op,.op,.grd true 2 [.op,.op],.op,.grd true 1 [.op],.op])) .l)))))))
def WX.v (a b c d e f:Int)(g h:Sl)(i:ByteArray)(j:Hp)(k:Bool->Hp->Prop):Prop:=Nw (.cells #[.I a,.I b,.I c,.I d,.I e,.I f] 46 (0,0)) j λl m=>LdI .i64 (l.add 0) m λn=>LdI .i64 (l.add 1) m λo=>LdI .i64 (l.add 2) m λp=>LdI .i64 (l.add 3) m λq=>LdI .i64 (l.add 4) m λr=>LdI .i64 (l.add 5) m λs=>XX.c n o p q r s g 30 m λt u v=>JnB (λw x=>JnB (λy z=>JnB (λaa ab=>If aa (WJ.c ab λac ad=>k ac ad) (Qm.c t 0 i ab λae af ag=>If (af != 0) (JnB (λah ai=>k ah ai) λaj=>If (ae==0) (WJ.c ag λak al=>aj ak al) (aj false ag)) (Xo [(.i .i64)] (λam=>am 0 ag) λan (ao:Int) ap=>If (ao<((h.len:Nat):Int)) (Ix h.a h.len ao 8 λaq=>LdI .i64 (aq.add 0) ap λar=>LdI .i64 (aq.add 1) ap λau=>LdI .i64 (aq.add 2) ap λav=>LdI .i64 (aq.add 3) ap λaw=>LdI .i64 (aq.add 4) ap λax=>LdI .i64 (aq.add 5) ap λay=>LdI .i64 (aq.add 6) ap λaz=>LdT (aq.add 7) ap λa0=>Yf.c u ar au av aw ax ay az a0 ap λa1 a2=>Xd.c t ae a2 λa3 a4 a5=>Ix h.a h.len ao 8 λa6=>LdI .i64 (a6.add 0) a5 λa7=>JnB (λa8 a9=>If a8 (Ar .i64 (ao+1) λba=>an ba a9) (Ix h.a h.len ao 8 λbb=>LdI .i64 (bb.add 0) a9 λbc=>LdI .i64 (bb.add 1) a9 λbd=>LdI .i64 (bb.add 2) a9 λbe=>LdI .i64 (bb.add 3) a9 λbf=>LdI .i64 (bb.add 4) a9 λbg=>LdI .i64 (bb.add 5) a9 λbh=>LdI .i64 (bb.add 6) a9 λbi=>LdT (bb.add 7) a9 λbj=>Yc.c t u bc bd be bf bg bh bi bj a9 λbk bl bm bn=>Ar .i64 (ao+1) λbo=>an bo bn)) λbp=>If (a7≥20) (bp true a5) (Ix h.a h.len ao 8 λbq=>LdI .i64 (bq.add 0) a5 λbr=>JnB (λbs bt=>JnB (λbu bv=>JnB (λbw bx=>JnB (λbz b0=>
 bp bz b0) λb1=>If bw (Ar .i64 (ae+a3) λb2=>b1 (decide (a1<b2)) bx) (b1 false bx)) λb3=>If bu (b3 (decide (a1≥ae)) bv) (b3 false bv)) λb4=>If bs (b4 true bt) (Ix h.a h.len ao 8 λb5=>LdI .i64 (b5.add 0) bt λb6=>b4 (b6==6) bt)) λb7=>If (br==3) (b7 true a5) (Ix h.a h.len ao 8 λb8=>LdI .i64 (b8.add 0) a5 λb9=>b7 (b9==1) a5))) (Ql.c t ae ap λca cb cc=>JnB (λcd ce=>JnB (λcf cg=>k cf cg) λch=>If cd (WJ.c ce λci cj=>ch ci cj) (ch false ce)) λck=>If (ca.toList==i.toList) (ck (cb==0) cc) (ck false cc))))) λcl=>If y (cl true z) (W8.c t z λcm cn=>cl cm cn)) λco=>If w (co true x) (Xv.c h 30 x λcp cq=>co cp cq)) λcr=>If t.isNone (cr true v) (cr (decide (((i.size:Nat):Int)>400)) v)
theorem WX.o {a b c d e f g h i j k}(l:WX.v a b c d e f g h i j k):WX.c a b c d e f g h i j k:=Wa Tryz.func4 (x:=WX.h) (R0 l)
end Go.Proofs
namespace Go.Ar
open Go Go.Vc Go.Proofs
open Go.Vc (mget mset mdel)
variable {U w w':Hp}{F P Q X S:Rg}{L:LayH}{H H':Hw}{held:List Pc}{s0 sp:Sp}{t n:Nat}{g:Th}{σ0:Hp}{addrs:Sl}{ad:List Int}{l:Sl}{ds:List Deed}
theorem Wb6 {x:Int}(h0:0<=x)(h1:x<18446744073709551616):IntKind.u64.wrap x=x:=by
 unfold IntKind.wrap;simp[IntKind.bits,IntKind.signed];omega
theorem WcJ {x:Int}(h0:0<=x)(h1:x<18446744073709551616):IntKind.u64.wrap (IntKind.i64.wrap x)=x:=by
 unfold IntKind.wrap;simp[IntKind.bits,IntKind.signed];omega
theorem WlB (x:Int):IntKind.u8.wrap x=x%256:=by
 unfold IntKind.wrap;simp[IntKind.bits,IntKind.signed]
theorem Wdz {a b:Nat}(ha:a<18446744073709551616)(hb:b<18446744073709551616):bits .or .u64 (a:Int) (b:Int)=((a ||| b:Nat):Int):=by
 have hx:a ||| b<2^64:=Nat.or_lt_two_pow (by omega) (by omega);have h1:(BitVec.ofInt 64 (a:Int)).toNat=a:=by
  rw[BitVec.ofInt_natCast,BitVec.toNat_ofNat];exact zCC (by omega)
 have h2:(BitVec.ofInt 64 (b:Int)).toNat=b:=by
  rw[BitVec.ofInt_natCast,BitVec.toNat_ofNat];exact zCC (by omega)
 show IntKind.u64.wrap ((BitVec.ofInt 64 (a:Int) ||| BitVec.ofInt 64 (b:Int)).toNat:Int)=_;rw[BitVec.toNat_or,h1,h2,Wb6]<;>omega
def byN (s:ByteArray)(i:Nat):Nat:=match s[i]? with
 | some b=>b.toNat
 | none=>0
theorem Wgw (s:ByteArray)(i:Nat):byN s i<256:=by
 unfold byN;split
 ·rename_i b _;exact b.toNat_lt
 ·omega
def numN (s:ByteArray)(i:Nat):Nat->Nat
 | 0=>0
 | n+1=>numN s i n+byN s (i*8+n)*2^(8*n)
theorem WbR (s:ByteArray)(i:Nat):∀n,numN s i n<2^(8*n)
 | 0=>by simp[numN]
 | n+1=>by
  have h1:=WbR s i n;have h2:=Wgw s (i*8+n);have h3:byN s (i*8+n)*2^(8*n)<=255*2^(8*n):=zAD _ (by omega);have h4:2^(8*(n+1))=256*2^(8*n):=by rw[show 8*(n+1)=8+8*n by omega,zDT]
  unfold numN;omega
theorem WhQ (s:ByteArray)(i:Nat):∀n,n<=8->putF s i n=((numN s i n:Nat):Int)
 | 0,_=>rfl
 | n+1,hn=>by
  have ih:=WhQ s i n (by omega);have e:putF s i (n+1)=putK s i n (putF s i n):=by unfold putF;rw[zr,zv];rfl
  have hlt:=WbR s i n;have hp:2^(8*n)<=2^56:=zBL (by omega) (by omega);rw[e,ih];unfold putK;have hb:=Wgw s (i*8+n);cases hs:s[i*8+n]? with
  | none=>
   have:byN s (i*8+n)=0:=by unfold byN;rw[hs]
   simp only[numN,this];simp
  | some b=>
   have hby:byN s (i*8+n)=b.toNat:=by unfold byN;rw[hs]
   rw[hby]at hb;have hm:min (8*n) 64=8*n:=by omega
   have hmul:b.toNat*2^(8*n)<=255*2^56:=zAJ (by omega) hp;have ec:((b.toNat:Nat):Int)*2^(8*n)=((b.toNat*2^(8*n):Nat):Int):=by rw[Int.natCast_mul,Int.natCast_pow];rfl
   simp only;have e0:IntKind.u64.wrap ((b.toNat:Nat):Int)=((b.toNat:Nat):Int):=Wb6 (by omega) (by omega);rw[hm,e0,ec,Wb6 (by omega) (by omega),Wdz (by omega) (by omega)]
   congr 1
   simp only[numN,hby];rw[Nat.or_comm,Nat.mul_comm b.toNat,←Nat.two_pow_add_eq_or_of_lt hlt];omega
theorem WeZ (s:ByteArray)(i:Nat){k:Nat}:∀n,k<n->numN s i n/2^(8*k)%256=byN s (i*8+k)
 | 0,h=>by omega
 | n+1,h=>by
  have hp:0<2^(8*k):=zw _;have hb:=Wgw s (i*8+n);by_cases hk:k=n
  ·subst hk;have hlt:=WbR s i k;unfold numN;rw[zFM _ _ hp,Nat.div_eq_of_lt hlt,zJ];exact zCC hb
  ·have ih:=WeZ s i (k:=k) n (by omega);unfold numN;have e:byN s (i*8+n)*2^(8*n)=(byN s (i*8+n)*2^(8*(n-k-1)))*256*2^(8*k):=by
    rw[show 8*n=8*(n-k-1)+8+8*k by omega,zDT,zDT,←zCV,←zCV]
   rw[e,zFM _ _ hp,Nat.add_mul_mod_self_right];exact ih
def txtW (s:ByteArray)(i:Nat):Int:=if i=0 then(s.size:Int)else Wgp s (i-1)
theorem Wmr {sp:Sp}{a:Nat}{s:ByteArray}{j:Nat}(hj:j<s.size)(h:Vg sp ((8*(a+(j/8+1)):Nat):Int)=Wgp s (j/8)):getB sp ((8*a:Nat):Int) j=((s[j].toNat:Nat):Int):=by
 unfold getB;rw[show((8*a:Nat):Int)+(((j/8+1)*8:Nat):Int)=((8*(a+(j/8+1)):Nat):Int) by omega,h];unfold Wgp;have hlt:=WbR s (j/8) 8;rw[WhQ s (j/8) 8 (by omega),WcJ (by omega) (by omega),WlB,show min (8*(j%8)) 64=8*(j%8) by omega,Wcl];have hg:=WeZ s (j/8) (k:=j%8) 8 (by omega);rw[show j/8*8+j%8=j by omega]at hg;have hby:byN s j=s[j].toNat:=by unfold byN;rw[WbH,dif_pos hj]
 rw[hby]at hg;rw[←hg,Int.natCast_emod,Int.natCast_ediv,Int.natCast_pow];rfl
theorem Wi9 {sp:Sp}{a:Nat}{s:ByteArray}(h:∀i,i<(s.size+7)/8->Vg sp ((8*(a+(i+1)):Nat):Int)=Wgp s i):WkQ sp ((8*a:Nat):Int) s.size=s:=by
 unfold WkQ;apply ByteArray.ext;apply Array.ext
 ·simp
 ·intro j h1 h2;have hj:j<s.size:=h2;simp only[List.getElem_toArray,zCL,List.getElem_range];rw[Wmr hj (h (j/8) (by omega)),iTn,UInt8.ofNat_toNat];rfl
structure TxtI (H:Hw) (a u:Int) (s:ByteArray):Prop where
 live:∃b,(a,b)∈H.live/\b.2.1=u
 wd:∀(i:Nat),i<=(s.size+7)/8->Vg H.sp (a+8*(i:Int))=txtW s i
 big:(((s.size+7)/8+1)*8:Nat)<=u
 ph:∀j,phAt H j≠some (.find a)
 sz:s.size<=400
variable {a u:Int}{s:ByteArray}
theorem HI.acc (h:HI H held s0){e:Int×Bk}(he:e∈H.live){w:Nat}(h1:e.1<=((8*w:Nat):Int))(h2:((8*w:Nat):Int)<e.1+e.2.2.1):gf H.sp.st (w/32)≠0:=by
 obtain⟨_,p,hp,_,_,h3,h4,_⟩:=h.lv e he;have:=h.mapped hp (x:=8*w) (by omega) (by omega)
 rwa [show 8*w/256=w/32 by omega]at this
theorem TxtI.step (h:TxtI H a u s)(hi:HI H held s0){d:Deed}{x:Int}(de:DoE H d x H')(hs:¬((d.kd=3\/d.kd=1\/d.kd=6)/\a<=x/\x<a+u)):TxtI H' a u s:=by
 obtain⟨b,hb,hbu⟩:=h.live;have h8:=hi.size8 hb;simp only at h8;obtain⟨k1,k2,k3⟩:=de.fx (a,b) hb ⟨h.ph,by simp only;rw[hbu];exact hs⟩;simp only at k2;obtain⟨held',s0',hi'⟩:=de.hi;refine⟨⟨b,k1,hbu⟩,λi hin=>?_,h.big,k3,h.sz⟩;have hw:=h.wd i hin;have hbig:=h.big;obtain⟨a8,rfl⟩:∃c:Nat,a=((8*c:Nat):Int):=⟨a.toNat/8,by omega⟩;rw[show((8*a8:Nat):Int)+8*(i:Int)=((8*(a8+i):Nat):Int) by omega]at hw ⊢;have m1:=hi.acc hb (w:=a8+i) (by simp only;omega) (by simp only;omega);have m2:=hi'.acc k1 (w:=a8+i) (by simp only;omega) (by simp only;omega);rw[WdJ,zB m1]at hw;rw[WdJ,zB m2,k2 (a8+i) (by omega) (by omega)];exact hw
theorem TxtI.usable (h:TxtI H a u s)(hi:HI H held s0):ZJ H a=some u:=by
 obtain⟨b,hb,hbu⟩:=h.live;unfold ZJ;rw[UX hi.lk hb];show some b.2.1=_;rw[hbu]
theorem TxtI.get (h:TxtI H a u s)(hi:HI H held s0):getV H a=s/\getE H a=0:=by
 have hu:=h.usable hi;obtain⟨u1,u2,u3,u4,u5,_⟩:=hi.usable hu;obtain⟨b,hb,hbu⟩:=h.live;have hbig:=h.big;have hsz:=h.sz;obtain⟨a8,rfl⟩:∃c:Nat,a=((8*c:Nat):Int):=⟨a.toNat/8,by omega⟩;have hw:=h.wd;have hw0:=hw 0 (by omega);rw[show((8*a8:Nat):Int)+8*((0:Nat):Int)=((8*a8:Nat):Int) by omega,show txtW s 0=(s.size:Int)from rfl]at hw0;have hacc:accE H.sp ((8*a8:Nat):Int)=0:=Wck.2 (hi.acc hb (by simp only;omega) (by simp only;omega));have hbad:UM H ((8*a8:Nat):Int) u=false:=by
  unfold UM;rw[hacc,hw0,zH (by omega),zH (by omega),zH (by omega)];rfl
 unfold getV getE;rw[hu];simp only[hbad];refine⟨?_,rfl⟩;rw[hw0];refine Wi9 λi hi'=>?_;have:=hw (i+1) (by omega);rw[show((8*a8:Nat):Int)+8*((i+1:Nat):Int)=((8*(a8+(i+1)):Nat):Int) by omega]at this;rw[this];unfold txtW;rw[zA (by omega),zFJ]
theorem WgE (sp:Sp)(a:Int)(s:ByteArray)(n:Nat):putS sp a s n=wrS sp a (txtW s) (n+1):=by
 have key:∀n,putS sp a s n=wrS sp a (txtW s) (n+1):=by
  intro n
  induction n with
  | zero=>
   rw[GQ];show QT sp a (s.size:Int)=QT sp (a+((0:Nat):Int)*8) (txtW s 0);rw[show a+((0:Nat):Int)*8=a by omega];rfl
  | succ n ih=>
   rw[GQ,←ih];unfold putS;rw[zr,zv];show QT _ (a+((n:Int)+1)*8) (Wgp s n)=QT _ (a+((n+1:Nat):Int)*8) (txtW s (n+1));rw[show((n+1:Nat):Int)=(n:Int)+1 by omega];unfold txtW;rw[zA (by omega),zFJ]
 exact key n
theorem WnX {a8 m:Nat}(i:Nat)(hin:i<=m)(hm1:gf sp.st ((a8+i)/32)≠0):Vg (putS sp ((8*a8:Nat):Int) s m) (((8*a8:Nat):Int)+8*(i:Int))=txtW s i:=by
 obtain⟨_,z2,z3⟩:=Wlh sp a8 (txtW s) (m+1);rw[show((8*a8:Nat):Int)+8*(i:Int)=((8*(a8+i):Nat):Int) by omega,WgE,WdJ,zB λhx=>hm1 ((z2 _).1 hx),z3,zB ⟨by omega,by omega,hm1⟩];rw[show a8+i-a8=i by omega]
theorem WgX (H:Hw)(sp:Sp)(j:Nat):phAt {H with sp:=sp} j=phAt H j:=rfl
theorem WmS {H1 H2:Hw}(h:Z3 H1 H2)(sp:Sp):Z3 {H1 with sp:=sp} H2:=h
theorem WnA (hi:HI H held s0)(thread:Int)(s:ByteArray):∃H' a e,PutR H thread s H' a e/\HpOk H H'/\(∀j,phAt H' j=phAt H j)/\(e≠0->a=0)/\(e=0->(∀j,phAt H j=none)->∃u,TxtI H' a u s):=by
 by_cases hr:Qp H thread=0
 ·by_cases hsz:s.size<=400
  ·obtain⟨z,hz⟩:∃z:Int,z=((((s.size+7)/8+1)*8:Nat):Int):=⟨_,rfl⟩;obtain⟨H1,a,e,hw,o,me⟩:=Wdj hi thread z 8;obtain⟨held1,s1,hi1⟩:=o.hi;rcases me with⟨hne,_⟩|⟨rfl,hm,hok,cl,hlv,_⟩
   ·exact⟨_,_,_,.full hr hsz (by rw[←hz];exact hw) hne,o.hp,o.ph,λ_=>rfl,λh=>(hne h).elim⟩
   ·have hu:ZJ H1 a=some (Vj H.tb z 8).1:=by unfold ZJ;rw[hlv,Wi8];simp only[zc]
    have hg:=(Wlm (tb:=H.tb) (size:=z) (align:=8) ⟨hok.2.1,hok.2.2⟩).1;generalize hgu:(Vj H.tb z 8).1=u at hu hg hlv;obtain⟨u1,u2,u3,u4,u5,_⟩:=hi1.usable hu;obtain⟨s2,hi2⟩:=hi1.wr a (txtW s) ((s.size+7)/8+1);rw[←WgE]at hi2;refine⟨_,_,_,.ok hr hsz (by rw[←hz];exact hw) (by omega) (by omega),⟨⟨_,_,hi2⟩,WmS o.kp _⟩,λj=>(WgX _ _ j).trans (o.ph j),λh=>(h rfl).elim,λ_ hph=>⟨u,⟨_,by rw[hlv];exact(VY hm).2 (.inr rfl),rfl⟩,λi hin=>?_,by omega,λj=>?_,hsz⟩⟩
    ·obtain⟨a8,rfl⟩:∃b:Nat,a=((8*b:Nat):Int):=⟨a.toNat/8,by omega⟩;exact WnX i hin (hi1.acc (e:=(((8*a8:Nat):Int),(((8*a8:Nat):Int),u,cl,Yk H1.ars ((8*a8:Nat):Int)))) (by rw[hlv];exact(VY hm).2 (.inr rfl)) (w:=a8+i) (by simp only;omega) (by simp only;omega))
    ·rw[WgX,o.ph,hph];simp
  ·exact⟨_,_,_,.long hr (by omega),⟨⟨_,_,hi⟩,Z3.refl _⟩,λ_=>rfl,λ_=>rfl,λh=>by cases h⟩
 ·exact⟨_,_,_,.notReady hr,⟨⟨_,_,hi⟩,Z3.refl _⟩,λ_=>rfl,λ_=>rfl,λh=>(hr h).elim⟩
theorem Wgm (h:HH U F L H)(hc:CfOk H){R:Bool->Hp->Prop}(hR:∀r σ',Ext0 U σ'->(r=false->∀j,phAt H j=none)->R r σ'):W8.c (some ⟨L.p,0,none⟩) U R:=by
 refine W8.o ?_;unfold W8.v;have ht2:=h.s.t2;have hcf:=hc.2.1;refine Zx (a:=.i .i64) (λ(z:Int) w=>∃t:Nat,z=t/\t<=H.ths.length/\Ext0 U w/\∀j,j<t->phAt H j=none) (λz _=>H.ths.length-z.toNat) ⟨0,rfl,by omega,Ext.refl _ _,λj hj=>by omega⟩ ?_;rintro(z:Int) w ⟨t,rfl,ht,ew,hp⟩;refine Uw (h.keep0 ew) λv e=>?_;rw[hcf];refine ifD (λhlt=>?_) λhge=>?_
 ·refine Wdw ((h.keep0 ew).keep0 e) (t:Int) λs v2 e2 hs=>?_;have E:=(ew.trans e).trans e2;rw[hs];have hph:V8 H (t:Int)=phAt H t:=by
   unfold V8 phAt;rw[zB ⟨by omega,by omega⟩,iTn];cases hx:H.ths[t]?<;>rfl
  rw[hph];cases hx:phAt H t with
  | some p=>exact ifT rfl (hR true v2 E λh=>by cases h)
  | none=>
   refine ifF rfl (arN (m:=t+1) (by omega) (by omega) ⟨⟨t+1,rfl,by omega,E,λj hj=>?_⟩,by omega⟩);by_cases hjt:j=t
   ·rw[hjt];exact hx
   ·exact hp j (by omega)
 ·refine hR false v (ew.trans e) λ_ j=>?_;by_cases hj:j<t
  ·exact hp j hj
  ·unfold phAt;rw[zU (by omega)];rfl
set_option maxRecDepth 8000 in
theorem Whl (gl:Gl U)(gd:Gd U)(b b1 b2 b3 b4 b5:Int)(hd:Deeds U l ds){more:Sl}{ms:List Deed}(hm:Deeds U more ms)(s:ByteArray){R:Bool->Hp->Prop}(hR:∀σ',Ext0 U σ'->R true σ'):WX.c b b1 b2 b3 b4 b5 l more s U R:=by
 refine WX.o ?_;unfold WX.v;refine nw (cs:=[.int .i64 b,.int .i64 b1,.int .i64 b2,.int .i64 b3,.int .i64 b4,.int .i64 b5]) λv hz e hb=>hb.rI rfl (hb.rI rfl (hb.rI rfl (hb.rI rfl (hb.rI rfl (hb.rI rfl ?_)))));have hml:=hm.len;refine WmR (gl.keep0 e) (gd.keep0 e) b b1 b2 b3 b4 b5 (hd.keep0 e) 30 (by decide) (λv1 e1=>?_) λv1 L H held s0 P Q addrs ad p=>?_
 ·refine JnB.intro (ifT rfl (JnB.intro (ifT rfl (JnB.intro (ifT rfl (Uu (gl.keep0 (e.trans e1)) (gd.keep0 (e.trans e1)) λv2 e2=>hR v2 ((e.trans e1).trans e2)))))))
 ·have fin:∀w,Ext0 v1 w->WJ.c w R:=λw ew=>Uu (p.fr ew).h.g (p.fr ew).h.gd λv2 e2=>hR v2 ((e.trans (p.fr ew).e).trans e2);refine QD (λr w=>w=v1) (λr w hw=>?_) λJ hJ=>ifF rfl (hJ _ _ rfl);subst hw;refine QD (λr1 w1=>w1=w/\(r1=false->(more.len:Int)<=30)) (λr1 w1 ⟨hw1,hr1⟩=>?_) λJ hJ=>iff_ (λ_=>hJ _ _ ⟨rfl,λh=>by cases h⟩) λ_=>Wg0 (hJ _ _ ⟨rfl,λh=>by have:=zCI h;omega⟩);rw[hw1];refine QD (λr2 w2=>Ext0 w w2/\(r2=false->(∀j,phAt H j=none)/\(more.len:Int)<=30)) (λr2 w2 ⟨ew2,hr2⟩=>?_) λJ hJ=>iff_ (λ_=>hJ _ _ ⟨Ext.refl _ _,λh=>by cases h⟩) λhf=>Wgm p.h p.cf λr σ' e' hp=>hJ _ _ ⟨e',λh=>⟨hp h,hr1 hf⟩⟩;refine iff_ (λ_=>fin w2 ew2) λhf=>?_;obtain⟨hph,hmore⟩:=hr2 hf;have p2:=p.fr ew2;obtain⟨H',a,er,hpr,o,hps,hne,htx⟩:=WnA p2.hi 0 s;refine WiD WbP p2.h p2.cf hpr λv6 ts6 e6 h6=>?_;obtain⟨held6,s6,hi6⟩:=o.hi;have p6:=p2.step e6 h6 hi6 o.kp;by_cases he:er=0
  ·refine ifF (by simpa using he) ?_;obtain⟨u,tx⟩:=htx he hph;refine Zx (a:=.i .i64) (λ(z:Int) w=>∃(i:Nat) (L':LayH) (H:Hw) (held:List Pc) (s0:Sp) (P Q:Rg),z=i/\i<=more.len/\L'.p=L.p/\PlayOk v w L' H held s0 P Q addrs ad/\TxtI H a u s) (λz _=>more.len-z.toNat) ⟨0,{L with ts:=ts6},_,_,_,_,_,rfl,by omega,rfl,p6,tx⟩ ?_;rintro(z:Int) w9 ⟨i,L',H9,held9,s9,P9,Q9,rfl,hi,hLp,p9,tx9⟩;rw[←hLp];obtain⟨u1,u2,u3,u4,u5,_⟩:=p9.hi.usable (tx9.usable p9.hi);refine ifD (λhlt=>?_) λhge=>?_
   ·have hx:ms[i]?=some (ms[i]'(by omega)):=gGe _;have hdi:=hm.i _ (zD hx);have rd:∀{w':Hp} (ew:Ext0 v w') {K:Addr->Prop},(∀b o,(∀w'',Ext0 v w''->∀(j:Nat) v,(WcW (ms[i]'(by omega)))[j]?=some v->cell w'' ⟨b,o+j,none⟩=some v)->K ⟨b,o,none⟩)->Ix more.a more.len (i:Int) 8 K:=λew K hK=>(hm.keep0 e).rd ew hx hK;generalize hdm:(ms[i]'(by omega))=d at hx hdi rd;refine rd p9.e λba oa hc=>ldI0 (hc _ p9.e 0 _ rfl) (ldI0 (hc _ p9.e 1 _ rfl) (ldI0 (hc _ p9.e 2 _ rfl) (ldI0 (hc _ p9.e 3 _ rfl) (ldI0 (hc _ p9.e 4 _ rfl) (ldI0 (hc _ p9.e 5 _ rfl) (ldI0 (hc _ p9.e 6 _ rfl) (ldT0 (hc _ p9.e 7 _ rfl) ?_)))))));refine Wnm (RowR.slR p9.row) d λv10 e10=>?_;have hat:=Wna (ad:=ad) hdi;generalize hxa:atV ad d=x at hat;refine QG (p9.h.keep0 e10) a λv11 e11=>?_;rw[tx9.usable p9.hi];simp only[zBH];have p11:=(p9.fr e10).fr e11;refine rd p11.e λba oa hc=>ldI0 (hc _ p11.e 0 _ rfl) ?_;refine QD (λr w=>w=v11/\(r=false->¬((d.kd=3\/d.kd=1\/d.kd=6)/\a<=x/\x<a+u))) (λr4 w12 ⟨hw12,hr4⟩=>?_) λJ5 hJ5=>?_
    ·rw[hw12];refine iff_ (λ_=>?_) λhf4=>?_
     ·exact arN (m:=i+1) (by omega) (by omega) ⟨⟨i+1,_,_,_,_,_,_,rfl,by omega,rfl,p11,tx9⟩,by omega⟩
     ·refine rd p11.e λba oa hc=>ldI0 (hc _ p11.e 0 _ rfl) (ldI0 (hc _ p11.e 1 _ rfl) (ldI0 (hc _ p11.e 2 _ rfl) (ldI0 (hc _ p11.e 3 _ rfl) (ldI0 (hc _ p11.e 4 _ rfl) (ldI0 (hc _ p11.e 5 _ rfl) (ldI0 (hc _ p11.e 6 _ rfl) (ldT0 (hc _ p11.e 7 _ rfl) ?_)))))));refine Wnq p11.h p11.hi p11.cf (by have:=p11.pg;omega) (RowR.slR p11.row) d hdi λaa ee nn w13 ts13 H13 e13 h13 de=>?_;obtain⟨held13,s13,hi13⟩:=de.hi;have p13:=p11.step e13 h13 hi13 de.kp;rw[hxa]at de;exact arN (m:=i+1) (by omega) (by omega) ⟨⟨i+1,{L' with ts:=ts13},_,_,_,_,_,rfl,by omega,rfl,p13,tx9.step p11.hi de (hr4 hf4)⟩,by omega⟩
    ·refine ifD (λh20=>hJ5 _ _ ⟨rfl,λh=>by cases h⟩) λh20=>rd p11.e λba oa hc=>ldI0 (hc _ p11.e 0 _ rfl) ?_;refine QD (λr w=>w=v11/\r=decide (d.kd=3\/d.kd=1)) (λr5 w14 ⟨hw14,hr5⟩=>?_) λJ6 hJ6=>iff_ (λh3=>hJ6 _ _ ⟨rfl,by rw[zI (.inl (by simpa using h3))]⟩) λh3=>rd p11.e λba oa hc=>ldI0 (hc _ p11.e 0 _ rfl) (hJ6 _ _ ⟨rfl,?_⟩)
     ·rw[hw14];refine QD (λr w=>w=v11/\r=decide (d.kd=3\/d.kd=1\/d.kd=6)) (λr6 w15 ⟨hw15,hr6⟩=>?_) λJ7 hJ7=>iff_ (λh3=>hJ7 _ _ ⟨rfl,?_⟩) λh3=>rd p11.e λba oa hc=>ldI0 (hc _ p11.e 0 _ rfl) (hJ7 _ _ ⟨rfl,?_⟩)
      ·rw[hw15];refine QD (λr w=>w=v11/\(r=false->¬((d.kd=3\/d.kd=1\/d.kd=6)/\a<=x))) (λr7 w16 ⟨hw16,hr7⟩=>?_) λJ8 hJ8=>iff_ (λh3=>hJ8 _ _ ⟨rfl,λh=>?_⟩) λh3=>hJ8 _ _ ⟨rfl,λ_ h=>?_⟩
       ·rw[hw16];refine QD (λr w=>w=v11/\(r=false->¬((d.kd=3\/d.kd=1\/d.kd=6)/\a<=x/\x<a+u))) (λr8 w17 h8=>hJ5 _ _ h8) λJ9 hJ9=>iff_ (λh3=>ar (by omega) (by omega) (hJ9 _ _ ⟨rfl,λh hx=>?_⟩)) λh3=>hJ9 _ _ ⟨rfl,λ_ hx=>hr7 h3 ⟨hx.1,hx.2.1⟩⟩;have:=zCI h;omega
       ·have:=zCI h;omega
       ·rw[hr6]at h3;exact zCI h3 h.1
      ·rw[hr5]at h3;have:=zCA h3;rw[zI (by omega)]
      ·rw[hr5]at h3;have:=zCI h3;by_cases h6:d.kd=6
       ·rw[h6];rfl
       ·rw[zH (by omega)];simpa using h6
     ·have h3':d.kd≠3:=by simpa using h3
      by_cases h1:d.kd=1
      ·rw[h1];rfl
      ·rw[zH (by omega)];simpa using h1
   ·refine WiG p9.h p9.cf a (by omega) (λu' hu'=>by rw[tx9.usable p9.hi]at hu';cases hu';omega) (λ_=>by omega) λv18 e18=>?_;obtain⟨g1,g2⟩:=tx9.get p9.hi;rw[g1,g2];have p18:=p9.fr e18;exact JnB.intro (ifT (by simp) (JnB.intro (ifT rfl (Uu p18.h.g p18.h.gd λv2 e2=>hR v2 ((e.trans p18.e).trans e2)))))
  ·refine ifT (by simpa using he) ?_;rw[hne he];exact JnB.intro (ifT rfl (Uu p6.h.g p6.h.gd λv2 e2=>hR v2 ((e.trans p6.e).trans e2)))
end Go.Ar
namespace Go.Ar
open Go Go.Vc Go.Proofs Go.ChangeShapes Go.WideShapes Go.RowKit Go.Deep
theorem Gb {H:Type}{enc:TypeId×Value->H}{P:Program}{w:World}{base:Nat}{sp:Nat->Bool}{held:Bool}{fuel:Nat}{t:TypeId}{c:Value}{y:DataW H×List MemPlace}
 (ht:P.underlying t=some .bool) (h:DataW.trod enc P w base sp held fuel t [c]=some y):∃n,c=.bool n/\y=(.lit (.bool n),[]):=by
 cases fuel with
 | zero=>simp[DataW.trod]at h
 | succ fuel=>
  cases c<;>simp[DataW.trod,ht]at h
  rename_i n;exact⟨n,rfl,by simpa using h.symm⟩
theorem WaS {P:Program}{w:World}{t:TypeId}{f0 f1:Field}{cs:Array Value}{fuel:Nat}{p:List MemPlace}{x y:Bool}(ht:P.underlying t=some (.struct #[f0,f1]))(hone:oneCellFields P #[f0,f1]=true)(hC:P.cellsOf t=2)
 (h0:P.underlying f0.type=some .bool) (h1:P.underlying f1.type=some .bool) (h:DataW.trod (λ_=>()) P w 0 (λ_=>true) false fuel t cs.toList=some (.agg [.lit (.bool x),.lit (.bool y)],p)):cs = #[.bool x,.bool y]:=by
 obtain⟨ys,n,hn,hy,hlen,hyl,hff⟩:=DataW.trod_struct ht h;obtain⟨l⟩:=cs;have hl2:l.length=2:=by rw[←hC];simpa using hlen
 match l,hl2 with
 | [c0,c1],_=>
  have k0:=hff 0 f0 rfl;have k1:=hff 1 f1 rfl;obtain⟨o0,q0⟩:=hone_of hone 0 f0 rfl;obtain⟨o1,q1⟩:=hone_of hone 1 f1 rfl;rw[o0,q0]at k0;rw[o1,q1]at k1
  match ys,hyl with
  | [y0,y1],_=>
   obtain⟨n0,rfl,e0⟩:=Gb h0 (c:=c0) (y:=y0) (by simpa using k0);obtain⟨n1,rfl,e1⟩:=Gb h1 (c:=c1) (y:=y1) (by simpa using k1);subst e0;subst e1;simp at hy;obtain⟨⟨rfl,rfl⟩,_⟩:=hy;rfl
theorem H4 {w:World}{a:Addr}{v:Value}(h:w.cell? a=some v):cell w.heap a=some v:=h
section
variable {H:Type}{enc:TypeId×Value->H}{P:Program}{w:World}
theorem Wnr {x:Int}(h:(Lit.int .i64 x).wf=true):I64 x:=by
 unfold I64;simp[Lit.wf,IntKind.min,IntKind.max,IntKind.bits,IntKind.signed]at h;omega
theorem WfP {t:TypeId}{f0 f1 f2 f3 f4 f5 f6 f7:Field}{fuel:Nat}{cs:List Value}{y:DataW H×List MemPlace}
 (ht:P.underlying t=some (.struct #[f0,f1,f2,f3,f4,f5,f6,f7])) (hone:oneCellFields P #[f0,f1,f2,f3,f4,f5,f6,f7]=true) (hC:P.cellsOf t=8)
 (h0:P.underlying f0.type=some (.int .i64)) (h1:P.underlying f1.type=some (.int .i64)) (h2:P.underlying f2.type=some (.int .i64)) (h3:P.underlying f3.type=some (.int .i64)) (h4:P.underlying f4.type=some (.int .i64)) (h5:P.underlying f5.type=some (.int .i64)) (h6:P.underlying f6.type=some (.int .i64)) (h7:P.underlying f7.type=some .string)
 (h:DataW.trod enc P w 0 (λ_=>true) true fuel t cs=some y):∃d:Deed,cs=WcW d/\DeedI d:=by
 obtain⟨ys,n,hn,hy,hlen,hyl,hff⟩:=DataW.trod_struct ht h;have hl8:cs.length=8:=by rw[←hC];exact hlen
 match cs,hl8 with
 | [c0,c1,c2,c3,c4,c5,c6,c7],_=>
  have one:∀(j:Nat) (f:Field) (c:Value),(#[f0,f1,f2,f3,f4,f5,f6,f7]:Array Field)[j]?=some f->[c0,c1,c2,c3,c4,c5,c6,c7][j]?=some c->∃z,DataW.trod enc P w 0 (λ_=>true) true n f.type [c]=some z:=by
   intro j f c hj hc;obtain⟨ho,hk⟩:=hone_of hone j f hj;have h3:=hff j f hj;rw[ho,hk]at h3;have hjl:=(gSi.1 hc).1;have e1:([c0,c1,c2,c3,c4,c5,c6,c7].drop j).take 1=[c]:=by
    rw[zBY hjl,zCR,zFH,(gSi.1 hc).2]
   rw[e1]at h3;have hys:ys[j]?=some (ys[j]'(by rw[hyl];simp at hjl ⊢;omega)):=gGe _;rw[hys]at h3;exact⟨_,h3⟩
  have int:∀(j:Nat) (f:Field) (c:Value),(#[f0,f1,f2,f3,f4,f5,f6,f7]:Array Field)[j]?=some f->[c0,c1,c2,c3,c4,c5,c6,c7][j]?=some c->P.underlying f.type=some (.int .i64)->∃x:Int,c=.int .i64 x/\I64 x:=by
   intro j f c hj hc hu;obtain⟨z,hz⟩:=one j f c hj hc;obtain⟨x,hx1,_,hw⟩:=DataW.trod_int hu hz;simp only[List.cons.injEq,and_true]at hx1;exact⟨x,hx1,Wnr hw⟩
  obtain⟨x0,rfl,_⟩:=int 0 f0 c0 rfl rfl h0;obtain⟨x1,rfl,_⟩:=int 1 f1 c1 rfl rfl h1;obtain⟨x2,rfl,i2⟩:=int 2 f2 c2 rfl rfl h2;obtain⟨x3,rfl,i3⟩:=int 3 f3 c3 rfl rfl h3;obtain⟨x4,rfl,_⟩:=int 4 f4 c4 rfl rfl h4;obtain⟨x5,rfl,i5⟩:=int 5 f5 c5 rfl rfl h5;obtain⟨x6,rfl,i6⟩:=int 6 f6 c6 rfl rfl h6;obtain⟨z,hz⟩:=one 7 f7 c7 rfl rfl;obtain⟨s,hs,_⟩:=DataW.trod_string h7 hz;simp only[List.cons.injEq,and_true]at hs;subst hs;exact⟨⟨x0,x1,x2,x3,x4,x5,x6,s⟩,rfl,i2,i3,i5,i6⟩
theorem Wbc {t e:TypeId}{f0 f1 f2 f3 f4 f5 f6 f7:Field}{a:Option Addr}{len cap:Nat}{d:DataW H}{ps:List MemPlace}
 (htl:P.underlying t=some (.slice e)) (ht:P.underlying e=some (.struct #[f0,f1,f2,f3,f4,f5,f6,f7])) (hone:oneCellFields P #[f0,f1,f2,f3,f4,f5,f6,f7]=true) (hC:P.cellsOf e=8)
 (h0:P.underlying f0.type=some (.int .i64)) (h1:P.underlying f1.type=some (.int .i64)) (h2:P.underlying f2.type=some (.int .i64)) (h3:P.underlying f3.type=some (.int .i64)) (h4:P.underlying f4.type=some (.int .i64)) (h5:P.underlying f5.type=some (.int .i64)) (h6:P.underlying f6.type=some (.int .i64)) (h7:P.underlying f7.type=some .string)
 (h:DataW.Trod enc P w 0 (λ_=>true) true t (.slice a len cap) d ps):∃ds,Deeds w.heap ⟨a,len,cap⟩ ds:=by
 obtain⟨fuel,hf⟩:=h;rcases open_slice htl hf with⟨hcs,_⟩|⟨ad,len',cap',m,n,D,Pl,hcs,_,hl,hm,hmm,hx,hi⟩
 ·simp[Value.cells]at hcs;obtain⟨rfl,rfl,rfl⟩:=hcs;exact⟨[],rfl,λi x hx=>by simp at hx,by simp,by simp⟩
 ·simp[Value.cells]at hcs;obtain⟨rfl,rfl,rfl⟩:=hcs;have hmc:m=cap:=by simpa using hmm
  have key:∀i,i<len->∃u:Deed,(∀j v,(WcW u)[j]?=some v->cell w.heap ((ad.add (i*8)).add j)=some v)/\DeedI u:=by
   intro i hil;obtain⟨cs',hc,ht'⟩:=hi i (by omega);rw[hC]at hc;obtain⟨x,hcs,hxi⟩:=WfP ht hone hC h0 h1 h2 h3 h4 h5 h6 h7 ht';obtain⟨_,hcl,hat⟩:=World.cells?_some hc;refine⟨x,λj v hv=>?_,hxi⟩;have hj:=(gSi.1 hv).1;have:=hat j (by simpa[WcW]using hj);rw[hcs]at this;rw[hv]at this;exact this
  let g:Nat->Deed:=λi=>if hi:i<len then(key i hi).choose else⟨0,0,0,0,0,0,0,ByteArray.empty⟩
  have hg:∀i,(hi:i<len)->g i=(key i hi).choose:=λi hi=>by simp only[g,hi,dif_pos]
  refine⟨(List.range len).map g,by simp,λi x hx=>?_,λx hx=>?_,?_⟩
  ·have hil:i<len:=by
    have:=(gSi.1 hx).1;simpa using this
   have hgx:g i=x:=by simpa[hil]using hx
   rw[hg i hil]at hgx;have hs:=(key i hil).choose_spec;rw[hgx]at hs;obtain⟨hc,_⟩:=hs;have hz0:=(key 0 (by omega)).choose_spec.1;have hz1:=hz0 0 _ rfl;have hsp:=Why hz1;simp only[zDK,Addr.add_zero']at hsp;obtain⟨b,o,s⟩:=ad;have hs:s=none:=hsp.2;subst hs;refine⟨b,o,rfl,hsp.1,λj v hv=>?_⟩;have:=hc j v hv;rw[add_lit,add_lit]at this;exact this
  ·obtain⟨i,hi,rfl⟩:=zE.1 hx;have hil:=zb.1 hi;rw[hg i hil];exact(key i hil).choose_spec.2
  ·have:maxLen=9223372036854775807:=rfl;simp;omega
theorem Wgo {b0:Nat}{t:TypeId}{f0 f1 g0 g1 g2 g3 g4:Field}{v:Value}{d:DataW H}{ps:List MemPlace}
 (ht:P.underlying t=some (.struct #[f0,f1])) (hC:P.cellsOf t=6) (ho:f0.offset=0/\P.cellsOf f0.type=1/\f1.offset=1/\P.cellsOf f1.type=5)
 (h0:P.underlying f0.type=some (.int .i64)) (h1:P.underlying f1.type=some (.struct #[g0,g1,g2,g3,g4])) (hone:oneCellFields P #[g0,g1,g2,g3,g4]=true)
 (k0:P.underlying g0.type=some (.int .i64)) (k1:P.underlying g1.type=some (.int .i64)) (k2:P.underlying g2.type=some (.int .i64)) (k3:P.underlying g3.type=some (.int .i64)) (k4:P.underlying g4.type=some (.int .i64))
 (hval:Value.okWide P w .any b0 t v) (h:DataW.Trod enc P w 0 (λ_=>true) true t v d ps):∃(x0 x1 x2 x3 x4 x5:Int),v=.agg #[.int .i64 x0,.int .i64 x1,.int .i64 x2,.int .i64 x3,.int .i64 x4,.int .i64 x5]:=by
 unfold Value.okWide at hval;rw[ht]at hval;obtain⟨cs,rfl,hsz,_⟩:=hval;obtain⟨fuel,hf⟩:=h;obtain⟨l⟩:=cs;have hl6:l.length=6:=by rw[←hC];simpa using hsz
 obtain⟨ho1,ho2,ho3,ho4⟩:=ho
 match l,hl6 with
 | [c0,c1,c2,c3,c4,c5],_=>
  have hf:DataW.trod enc P w 0 (λ_=>true) true fuel t [c0,c1,c2,c3,c4,c5]=some (d,ps):=hf;obtain⟨y0,y1,n,_,_,q0,q1⟩:=trod_struct2 ht hf;rw[ho1,ho2]at q0;rw[ho3,ho4]at q1;have q0':DataW.trod enc P w 0 (λ_=>true) true n f0.type [c0]=some y0:=q0;have q1':DataW.trod enc P w 0 (λ_=>true) true n f1.type [c1,c2,c3,c4,c5]=some y1:=q1;obtain⟨x0,hx0,_,_⟩:=DataW.trod_int h0 q0';simp only[List.cons.injEq,and_true]at hx0;subst hx0;obtain⟨ys,n,hn,hy,hlen,hyl,hff⟩:=DataW.trod_struct h1 q1';have int:∀(j:Nat) (f:Field) (c:Value),(#[g0,g1,g2,g3,g4]:Array Field)[j]?=some f->[c1,c2,c3,c4,c5][j]?=some c->P.underlying f.type=some (.int .i64)->∃x:Int,c=.int .i64 x:=by
   intro j f c hj hc hu;obtain⟨ho,hk⟩:=hone_of hone j f hj;have h3:=hff j f hj;rw[ho,hk]at h3;have hjl:=(gSi.1 hc).1;have e1:([c1,c2,c3,c4,c5].drop j).take 1=[c]:=by
    rw[zBY hjl,zCR,zFH,(gSi.1 hc).2]
   rw[e1]at h3;have hys:ys[j]?=some (ys[j]'(by rw[hyl];simp at hjl ⊢;omega)):=gGe _;rw[hys]at h3;obtain⟨x,hx1,_,_⟩:=DataW.trod_int hu h3;exact⟨x,by simpa using hx1⟩
  obtain⟨x1,rfl⟩:=int 0 g0 c1 rfl rfl k0;obtain⟨x2,rfl⟩:=int 1 g1 c2 rfl rfl k1;obtain⟨x3,rfl⟩:=int 2 g2 c3 rfl rfl k2;obtain⟨x4,rfl⟩:=int 3 g3 c4 rfl rfl k3;obtain⟨x5,rfl⟩:=int 4 g4 c5 rfl rfl k4;exact⟨x0,x1,x2,x3,x4,x5,rfl⟩
end
end Go.Ar