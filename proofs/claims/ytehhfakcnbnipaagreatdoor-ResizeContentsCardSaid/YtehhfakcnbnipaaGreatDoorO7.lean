/- Texts joined. -/
import Derived.Shelf.SlSortCmp.NoneTotal
import Derived.Ground.SlsfProg
import Derived.Test.YtehhfakcnbnipaaGreatDoorProg
import Derived.Shelf.SlIterI.Nil
import Derived.Ground.GgzProg
import Derived.Test.YtehhfakcnbnipaaGreatDoorRows
import Derived.ChangeVars
import Derived.JoinedOf
import Derived.RowKit
import Derived.WalkKit
import Derived.ProofKit
import Derived.OpenShut
import Derived.ChangeOld
import Derived.Carry
import Derived.Test.YtehhfakcnbnipaaGreatDoorO6
set_option linter.unusedVariables false
set_option linter.unusedSimpArgs false
namespace Go.Ar
open Go.Vc (mget mset mdel)
variable {H:Hw}{held:List Pc}{s0:Sp}{t k:Nat}{g:Th}{A:AR}{c:Cls}
theorem Z4 {p:Ph}{H1:Hw}{g1:Th}{nx:Option Ph}{a e:Int}(ht:t<H.ths.length)(hs:Wt H t p=({H1 with ths:=H.ths.set t g1},nx,a,e)):QG H t p = {H1 with ths:=H.ths.set t {g1 with ph:=nx}}:=by
 unfold QG;rw[hs];show Hw.setT _ t _=_;rw[Zx (g:=g1) (by simp[ht])];simp only[zBL]
structure StI (H:Hw) (t:Nat) (p:Ph):Prop where
 ok:Wbh H t p
 hi:∃held s0,HI (QG H t p) held s0
 ks:KS H.sp (QG H t p).sp
theorem StI.mk' {p:Ph}(hg:H.ths[t]?=some g)(hl:g.hands.length<=41)(h1:WgA H t p){H':Hw}{held':List Pc}{s0':Sp}(e:QG H t p=H')(h2:HI H' held' s0')(h3:KS H.sp H'.sp):StI H t p:=
 ⟨⟨h1,λg' hg'=>by rw[hg]at hg';cases hg';omega⟩,⟨held',s0',by rw[e];exact h2⟩,by rw[e];exact h3⟩
def Rq (tb:List Cls)(g:Th):Ph->Int->Int->Prop
 | .take k,cl,sz=>cl=k/\∃c,tb[k]?=some c/\sz=c.size
 | .transfer k _,cl,sz=>cl=k/\∃c,tb[k]?=some c/\sz=c.size
 | .central k _,cl,sz=>cl=k/\∃c,tb[k]?=some c/\sz=c.size
 | .grow k _,cl,sz=>cl=k/\∃c,tb[k]?=some c/\sz=c.size
 | .fill,cl,sz=>∃k xs r c,g.hands=(k,xs)::r/\cl=k/\tb[k]?=some c/\sz=c.size
 | .large m,cl,sz=>cl = -1/\sz=((m*256:Nat):Int)
 | _,_,_=>False
def Wan (H:Hw)(t:Nat):Ph->Nat
 | .take _=>5
 | .transfer _ _=>4
 | .central k w=>if Yk (H.arn t) (k:Int) (w:Int)=[]then 3 else 1
 | .grow _ _=>2
 | _=>0
def EfM (H:Hw)(t:Nat)(p:Ph)(cl sz:Int):Prop:=
 (∃p' g',(Wt H t p).2.1=some p'/\(QG H t p).live=H.live/\(QG H t p).ths[t]?=some g'/\Rq H.tb g' p' cl sz/\Wan (QG H t p) t p'<Wan H t p) ∨
 ((Wt H t p).2.1=none/\(Wt H t p).2.2.2≠0/\(Wt H t p).2.2.1=0/\(QG H t p).live=H.live) ∨
 ((Wt H t p).2.1=none/\(Wt H t p).2.2.2=0/\mget H.live (Wt H t p).2.2.1=none/\(QG H t p).live=mset H.live (Wt H t p).2.2.1 ((Wt H t p).2.2.1,sz,cl,XZ (QG H t p).ars (Wt H t p).2.2.1))
theorem HI.mem (h:HI H held s0)(hg:H.ths[t]?=some g):g∈H.ths:=zE hg
theorem HI.own_lt (h:HI H held s0)(t:Nat):H.own t<H.ars.length:=zCR _ (by have:=h.a1;omega)
theorem HI.arn (h:HI H held s0)(t:Nat):H.ars[H.own t]?=some (H.arn t):=by
 have hl:=gGe (h.own_lt t);rw[Win hl];exact hl
theorem HI.tb40 (h:HI H held s0):H.tb.length<=40:=by
 have hA:=h.arn 0;have:=(h.wi.ga _ _ hA).tb;rw[h.wi.tb _ _ hA]at this;exact this
theorem HI.cls (h:HI H held s0)(hk:k<H.tb.length):∃c,H.tb[k]?=some c/\c.ok:=⟨H.tb[k],gGe hk,h.ok _ (zf hk)⟩
theorem ThI.li {m:Nat}(h:ThI m g)(hk:k<m):∃l,g.ls[k]?=some l/\g.li k=l/\LiOk l/\l.os.length<=128:=by
 have hl:=gGe (l:=g.ls) (i:=k) (by rw[h.ll];exact hk);have:=h.lo _ (zf (by rw[h.ll];exact hk));exact⟨_,hl,Wjg hl,this.1,this.2⟩
theorem ThI.setL {m:Nat}(h:ThI m g){l':Li}(h1:LiOk l')(h2:l'.os.length<=128):(g.ls.set k l').length=m/\∀l∈g.ls.set k l',LiOk l/\l.os.length<=128:=by
 refine⟨by rw[zBM];exact h.ll,λl hl=>?_⟩;rcases zEJ hl with hl|rfl
 ·exact h.lo l hl
 ·exact⟨h1,h2⟩
theorem Wnz {ls:List Li}{l':Li}{hs:List Bt}{ph:Option Ph}(hk:k<ls.length):(⟨ls.set k l',hs,ph⟩:Th).li k=l':=by
 unfold Th.li;rw[Wff l' k hk,zA rfl]
theorem HI.lvOf (h:HI H held s0){y:Int}(hu:Um held (k:Int) y)(hc:H.tb[k]?=some c):Lv held (y,(y,(c.size:Int),(k:Int),XZ H.ars y)):=by
 obtain⟨p,hp,h1,h2,rfl⟩:=hu;obtain⟨A,hA,_⟩:=h.wi.hf p hp;obtain⟨c',hc',h3,_⟩:=h.wi.cls hp h2 hA;rw[h.wi.tb _ _ hA]at hc';have hc'':H.tb[k]?=some c':=hc';rw[hc]at hc'';cases hc'';exact⟨rfl,p,hp,h1,h2,rfl,by rw[h3],by rw[h.owner0 hp]⟩
theorem GN {ls:List Li}{l:Li}(hl:ls[k]?=some l)(l':Li)(k' x:Int):cnL (ls.set k l') k' x+(if(k:Int)=k' then l.os.count x else 0)=cnL ls k' x+(if(k:Int)=k' then l'.os.count x else 0):=by
 have:=Wmb l' (gSi.1 hl).1 k' x;rw[zL,hl]at this;exact this
theorem Wm3 {ls:List Li}{l:Li}(hl:ls[k]?=some l)(x:Int):cnL ls (k:Int) x=l.os.count x:=by
 rw[Waj,zL,hl];rfl
theorem WmN (h:HI H held s0)(hg:H.ths[t]?=some g)(hph:g.ph=some (.take k)){cl sz:Int}(hr:Rq H.tb g (.take k) cl sz):StI H t (.take k)/\EfM H t (.take k) cl sz:=by
 have ht:=(gSi.1 hg).1;have hth:=h.th g (h.mem hg);obtain⟨hh,hk⟩:g.hands=[]/\k<H.tb.length:=by have:=hth.ph;unfold PhI at this;rw[hph]at this;exact this
 obtain⟨rfl,c,hc,rfl⟩:=hr;have hok:=h.ok c (zE hc);obtain⟨l,hl,hli,hlo,hlm⟩:=hth.li hk;have hlo':=We9 hok hlo;have htg:=Gp hg;cases hT:Kd c l with
 | mk o l'=>
  rw[hT]at hlo';cases o with
  | some y=>
   have hs:Wt H t (.take k)=({{H with live:=mset H.live y (y,(c.size:Int),(k:Int),XZ H.ars y)}with ths:=H.ths.set t {g with ls:=g.ls.set k l'}},none,y,0):=by
    simp only[Wt,htg,Ub hc,hli,hT,VH,Zx hg,Th.setL]
   have e:=Z4 ht hs;have hcy:1<=cnT g (k:Int) y:=by
    have:=We3 hT y;rw[zGO]at this;unfold cnT;rw[Wm3 hl];omega
   have hu:=h.um_t (h.mem hg) hcy;have hm:=h.not_live (h.mem hg) hcy;have hlen:l'.os.length<=128:=by
    have:l'.os.length<=l.os.length:=by
     unfold Kd at hT;split at hT
     ·cases hT
     ·cases hT;simp
    omega
   obtain⟨ll,lo⟩:=hth.setL (k:=k) hlo' hlen;have hi:=h.updT hg (g':={g with ls:=g.ls.set k l',ph:=none}) (live':=mset H.live y (y,(c.size:Int),(k:Int),XZ H.ars y)) (λk' x=>by
    rw[Wcd _ hm];have h1:=GN hl l' k' x;have h2:=We3 hT x;unfold cnT;rw[hph];simp only[cnP];by_cases hkk:(k:Int)=k'
    ·simp only[hkk,zO]at h1 ⊢;omega
    ·simp only[hkk,zq]at h1 ⊢;omega)
    (Go.Vc.mset_keys h.lk) (λe' he=>by
     rcases(UJ hm).1 he with he|rfl
     ·exact .inl he
     ·exact .inr (h.lvOf hu hc))
    (λs a hp=>by cases hp) ⟨ll,lo,hth.hb,hth.hl,by unfold PhI;exact hh⟩
   refine⟨StI.mk' hg hth.hl ⟨hk,λy' l'' hy=>?_⟩ e hi (KS.refl _),.inr (.inr ?_)⟩
   ·rw[htg,hli,Ub hc,hT]at hy;cases hy;exact(h.i63 hu).1
   ·rw[e,hs];exact⟨rfl,rfl,hm,rfl⟩
  | none=>
   have hs:Wt H t (.take k)=({H with ths:=H.ths.set t {g with ls:=g.ls.set k l'}},some (.transfer k (Wai c l')),0,0):=by
    simp only[Wt,htg,Ub hc,hli,hT,Zx hg,Th.setL]
   have e:=Z4 ht hs;obtain⟨o1,o2⟩:=Whz hT;obtain⟨ll,lo⟩:=hth.setL (k:=k) hlo' (by rw[o2];simp);have hlim:=hlo'.lim1;have hw:1<=Wai c l'/\Wai c l'<=32:=by
    unfold Cls.ok at hok;unfold Wai;simp only at hlim;omega
   have hi:=h.updT hg (g':={g with ls:=g.ls.set k l',ph:=some (.transfer k (Wai c l'))}) (live':=H.live) (λk' x=>by
    have h1:=GN hl l' k' x;rw[o1,o2]at h1;unfold cnT;rw[hph];simp only[cnP];omega) h.lk (λe' he=>.inl he) (λs a hp=>by cases hp) ⟨ll,lo,hth.hb,hth.hl,by
     unfold PhI;exact⟨hh,hk,by rw[Wnz (by rw[hth.ll];exact hk)];exact o2,hw⟩⟩
   refine⟨StI.mk' hg hth.hl ⟨hk,λy' l'' hy=>?_⟩ e hi (KS.refl _),.inl ?_⟩
   ·rw[htg,hli,Ub hc,hT]at hy;cases hy
   ·rw[e,hs];exact⟨_,_,rfl,rfl,zK ht,⟨rfl,c,hc,rfl⟩,by simp[Wan]⟩
theorem Gs (h:GA A)(h0:Z9 A (k:Int)=0)(hc:A.tb[k]?=some c):∃x xs,YD A (k:Int)=x::xs/\xs.length+1=c.batch:=by
 have hv:YD A (k:Int)=(match A.tra[k]? with
  | some t=>t.bs.getLast?.getD []
  | none=>[]):=by unfold YD;rw[zA h0,iTn];rfl
 unfold Z9 at h0;rw[iTn]at h0;split at h0
 ·split at h0
  ·rename_i t ht;split at h0
   ·cases h0
   ·rename_i hb;rw[ht]at hv;simp only at hv;have hl:t.bs.getLast?=some (t.bs.getLast hb):=List.getLast?_eq_some_getLast hb;rw[hl]at hv;simp only[zAL]at hv;have:=h.trb k c t hc ht _ (List.getLast_mem hb);rw[←hv]at this;have hok:=h.cen;cases hx:YD A (k:Int)with
    | nil=>
     rw[hx]at this;have hkl:k<A.tb.length:=(gSi.1 hc).1;obtain⟨c',ss,_,hcl,_⟩:=h.cl hkl;have hcc:c'=c:=Option.some.inj (hcl.1.symm.trans hc);have:=(h.cen k c' ss hcl).ok;unfold Cls.ok at this;simp at *;subst hcc;omega
    | cons x xs=>exact⟨x,xs,rfl,by rw[hx]at this;simpa using this⟩
  ·cases h0
 ·cases h0
theorem WdJ (h:HI H held s0)(hg:H.ths[t]?=some g){w:Nat}(hph:g.ph=some (.transfer k w)){cl sz:Int}(hr:Rq H.tb g (.transfer k w) cl sz):StI H t (.transfer k w)/\EfM H t (.transfer k w) cl sz:=by
 have ht:=(gSi.1 hg).1;have hth:=h.th g (h.mem hg);obtain⟨hh,hk,hos,hw⟩:g.hands=[]/\k<H.tb.length/\(g.li k).os=[]/\1<=w/\w<=32:=by have:=hth.ph;unfold PhI at this;rw[hph]at this;exact this
 obtain⟨rfl,c,hc,rfl⟩:=hr;have hok:=h.ok c (zE hc);have hok':=hok;unfold Cls.ok at hok';have hA:=h.arn t;have ga:=h.wi.ga _ _ hA;have hcA:(H.arn t).tb[k]?=some c:=by rw[h.wi.tb _ _ hA];exact hc
 have hP:WgA H t (.transfer k w):=⟨hk,λh0=>by
  obtain⟨x,xs,e,_⟩:=Gs ga h0 hcA;rw[e];simp⟩
 by_cases hcase:w=c.batch/\Z9 (H.arn t) (k:Int)=0
 ·obtain⟨rfl,h0⟩:=hcase;obtain⟨x,xs,hv,hxl⟩:=Gs ga h0 hcA;have hs:Wt H t (.transfer k c.batch)=({H.setA (H.own t) (ZE (H.arn t) (k:Int))with ths:=H.ths.set t {g with hands:=[(k,x::xs)]}},some .fill,0,0):=by
   simp only[Wt,Ub hc,zO,h0,QP,hv];rw[Zx (g:=g) (by exact hg),hh];rfl
  have e:=Z4 (H1:=H.setA (H.own t) (ZE (H.arn t) (k:Int))) ht hs;obtain⟨u1,u2,u3,u4⟩:=WlW h.wi hA (j:=k);have wi:=h.wi.fromT hA (k:Int);have hi:=h.upd hg (g':={g with hands:=[(k,x::xs)],ph:=some .fill}) (live':=H.live) wi h.sim rfl (by simp[Wd.put]) u4 (λk' y=>by
   rw[WeF u2 (λy hy=>u1 y hy _) u3,hv];unfold cnT;rw[hph,hh];simp only[cnP,KC,VI];omega) h.lk (λe' he=>.inl he) (λs a hp=>by cases hp) ⟨hth.ll,hth.lo,λb hb=>by
    simp only[zZ]at hb;subst hb;exact⟨hk,by simp,by simp;omega⟩,by simp,by
    unfold PhI;exact⟨k,x,xs,rfl,hk,hos,by omega⟩⟩
  refine⟨StI.mk' hg hth.hl hP e hi (KS.refl _),.inl ?_⟩;rw[e,hs];exact⟨_,_,rfl,rfl,zK ht,⟨k,x::xs,[],c,rfl,rfl,hc,rfl⟩,by simp[Wan]⟩
 ·have hs:Wt H t (.transfer k w)=({H with ths:=H.ths.set t g},some (.central k w),0,0):=by
   have:H.ths.set t g=H.ths:=Qm hg;rw[this];simp only[Wt,Ub hc];split
   ·split
    ·exact(hcase ⟨by assumption,by assumption⟩).elim
    ·rfl
   ·rfl
  have e:=Z4 ht hs;have hi:=h.updT hg (g':={g with ph:=some (.central k w)}) (live':=H.live) (λk' x=>by
   unfold cnT;rw[hph];simp only[cnP]) h.lk (λe' he=>.inl he) (λs a hp=>by cases hp) ⟨hth.ll,hth.lo,hth.hb,hth.hl,by
    unfold PhI;exact⟨hh,hk,hos,hw⟩⟩
  refine⟨StI.mk' hg hth.hl hP e hi (KS.refl _),.inl ?_⟩;rw[e,hs];refine⟨_,_,rfl,rfl,zK ht,⟨rfl,c,hc,rfl⟩,?_⟩;simp only[Wan];split<;>omega
theorem Wc8 (h:GA A)(j w:Nat):(Yk A (j:Int) (w:Int)).length<=w:=by
 unfold Yk;split
 ·rename_i h0;have hck:A.ck (j:Int)=true:=by
   unfold QC at h0;split at h0
   ·assumption
   ·cases h0
  obtain⟨i,hi,hj⟩:=Ho.1 hck;obtain⟨c,ss,t,hk,ht⟩:=h.cl hj;have:i=j:=by omega
  subst this;unfold Vq;rw[iTn,iTn,hk.1,hk.2];exact(HF w (h.cen i c ss hk)).2.2.1
 ·simp
theorem Wkg (H:Hw)(t:Nat)(B:AR)(h:H.own t<H.ars.length)(sp:Sp)(ths:List Th):Hw.arn {H.setA (H.own t) B with sp:=sp,ths:=ths} t=B:=by
 refine Win ?_;have:Hw.own {H.setA (H.own t) B with sp:=sp,ths:=ths} t=H.own t:=by unfold Hw.own Hw.setA;simp
 rw[this];simp[Hw.setA,h]
theorem Wgq (h:HI H held s0)(hg:H.ths[t]?=some g){w:Nat}(hph:g.ph=some (.central k w)){cl sz:Int}(hr:Rq H.tb g (.central k w) cl sz):StI H t (.central k w)/\EfM H t (.central k w) cl sz:=by
 have ht:=(gSi.1 hg).1;have hth:=h.th g (h.mem hg);obtain⟨hh,hk,hos,hw⟩:g.hands=[]/\k<H.tb.length/\(g.li k).os=[]/\1<=w/\w<=32:=by have:=hth.ph;unfold PhI at this;rw[hph]at this;exact this
 obtain⟨rfl,c,hc,rfl⟩:=hr;have hA:=h.arn t;have ga:=h.wi.ga _ _ hA;have wi:=h.wi.from hA (k:Int) (w:Int);have hvl:=Wc8 ga k w;have hnd:=(Wbw ga (k:Int) (w:Int)).2.2.1;cases hv:Yk (H.arn t) (k:Int) (w:Int)with
 | nil=>
  have hs:Wt H t (.central k w)=({H.setA (H.own t) (YF (H.arn t) (k:Int) (w:Int))with ths:=H.ths.set t g},some (.grow k w),0,0):=by
   have:H.ths.set t g=H.ths:=Qm hg;rw[this];simp only[Wt,hv,zO,Hw.setA]
  have e:=Z4 (H1:=H.setA (H.own t) (YF (H.arn t) (k:Int) (w:Int))) ht hs;rw[hv]at wi;simp only[zCU,zAA]at wi;have hi:=h.upd hg (g':={g with ph:=some (.grow k w)}) (live':=H.live) wi h.sim rfl (by simp[Wd.put]) (λp hp _=>.inl hp) (λk' y=>by
   unfold cnT;rw[hph];simp only[cnP]) h.lk (λe' he=>.inl he) (λs a hp=>by cases hp) ⟨hth.ll,hth.lo,hth.hb,hth.hl,by
    unfold PhI;exact⟨hh,hk,hos,hw⟩⟩
  refine⟨StI.mk' hg hth.hl trivial e hi (KS.refl _),.inl ?_⟩;rw[e,hs];exact⟨_,_,rfl,rfl,zK ht,⟨rfl,c,hc,rfl⟩,by simp[Wan,hv]⟩
 | cons v vs=>
  have hs:Wt H t (.central k w)=({H.setA (H.own t) (YF (H.arn t) (k:Int) (w:Int))with ths:=H.ths.set t {g with hands:=[(k,(v::vs).map λ(x:Nat)=>(x:Int))]}},some .fill,0,0):=by
   simp only[Wt,hv,QP];rw[zB (by simp),Zx (g:=g) (by exact hg),hh];rfl
  have e:=Z4 (H1:=H.setA (H.own t) (YF (H.arn t) (k:Int) (w:Int))) ht hs;rw[hv]at wi hvl hnd;have hnd':((v::vs).map λ(x:Nat)=>(x:Int)).Nodup:=List.Pairwise.map (R:=(· ≠ ·)) _ (λa b hab e=>hab (by omega)) hnd;have app:=Wle (held:=held) (new:=(v::vs).map λy=>(⟨H.own t,(k:Int),y,szOf H.tb (k:Int),false⟩:Pc)) (cl:=(k:Int)) (l:=(v::vs).map λ(x:Nat)=>(x:Int)) (λp hp=>by
   obtain⟨y,hy,rfl⟩:=zD.1 hp;exact⟨rfl,rfl,zD.2 ⟨y,hy,rfl⟩⟩) λx hx=>by
   obtain⟨y,hy,rfl⟩:=zD.1 hx;exact⟨_,zD.2 ⟨y,hy,rfl⟩,rfl⟩
  have new:=WiE wi;have hi:=h.upd hg (g':={g with hands:=[(k,(v::vs).map λ(x:Nat)=>(x:Int))],ph:=some .fill}) (live':=H.live) wi h.sim rfl (by simp[Wd.put]) (Wik wi) (λk' y=>by
   rw[WeF hnd' (λy hy=>by
    obtain⟨z,hz,rfl⟩:=zD.1 hy;exact new ⟨H.own t,(k:Int),z,szOf H.tb (k:Int),false⟩ (zD.2 ⟨z,hz,rfl⟩) _) app]
   unfold cnT;rw[hph,hh];simp only[cnP,KC,VI];omega) h.lk (λe' he=>.inl he) (λs a hp=>by cases hp) ⟨hth.ll,hth.lo,λb hb=>by
    simp only[zZ]at hb;subst hb;exact⟨hk,by simp,by simp at hvl ⊢;omega⟩,by simp,by
    unfold PhI;exact⟨k,(v:Int),vs.map λ(x:Nat)=>(x:Int),rfl,hk,hos,by simp at hvl ⊢;omega⟩⟩
  refine⟨StI.mk' hg hth.hl trivial e hi (KS.refl _),.inl ?_⟩;rw[e,hs];refine⟨_,_,rfl,rfl,zK ht,⟨k,_,[],c,rfl,rfl,hc,rfl⟩,?_⟩;simp[Wan,hv]
theorem Wmc (h:HI H held s0)(hg:H.ths[t]?=some g){w:Nat}(hph:g.ph=some (.grow k w)){cl sz:Int}(hr:Rq H.tb g (.grow k w) cl sz):StI H t (.grow k w)/\EfM H t (.grow k w) cl sz:=by
 have ht:=(gSi.1 hg).1;have hth:=h.th g (h.mem hg);obtain⟨hh,hk,hos,hw⟩:g.hands=[]/\k<H.tb.length/\(g.li k).os=[]/\1<=w/\w<=32:=by have:=hth.ph;unfold PhI at this;rw[hph]at this;exact this
 obtain⟨rfl,c,hc,rfl⟩:=hr;have hA:=h.arn t;have ga:=h.wi.ga _ _ hA;obtain⟨e1,e2,e3,e4⟩:=h.sim.growS (H.arn t) (k:Int);have wi:=h.wi.grow hA (k:Int);by_cases h0:KM (H.arn t) H.sp (k:Int)=0
 ·have hs:Wt H t (.grow k w)=({{H.setA (H.own t) (growS (H.arn t) H.sp (k:Int)).1 with sp:=(growS (H.arn t) H.sp (k:Int)).2}with ths:=H.ths.set t g},some (.central k w),0,0):=by
   have:H.ths.set t g=H.ths:=Qm hg;rw[this];simp only[Wt,h0,zO,Hw.setA]
  have e:=Z4 (H1:={H.setA (H.own t) (growS (H.arn t) H.sp (k:Int)).1 with sp:=(growS (H.arn t) H.sp (k:Int)).2}) ht hs;have hroom:=WhN ga (h.wi.ow _ _ hA) (j:=k) (by rw[←e2];exact h0) hw.1;rw[show(Wd.mk H.tb s0 H.ars held).sp=s0 from rfl,←e1]at hroom;rw[show(Wd.mk H.tb s0 H.ars held).sp=s0 from rfl,←e1]at wi;have hi:=h.upd hg (g':={g with ph:=some (.central k w)}) (live':=H.live) wi e3 e4.l (by simp[Wd.put]) (λp hp _=>.inl hp) (λk' y=>by
   unfold cnT;rw[hph];simp only[cnP]) h.lk (λe' he=>.inl he) (λs a hp=>by cases hp) ⟨hth.ll,hth.lo,hth.hb,hth.hl,by
    unfold PhI;exact⟨hh,hk,hos,hw⟩⟩
  refine⟨StI.mk' hg hth.hl trivial e hi e4,.inl ?_⟩;rw[e,hs];refine⟨_,_,rfl,rfl,zK ht,⟨rfl,c,hc,rfl⟩,?_⟩;have:=Wkg H t (growS (H.arn t) H.sp (k:Int)).1 (h.own_lt t) (growS (H.arn t) H.sp (k:Int)).2 (H.ths.set t {g with ph:=some (.central k w)});simp only[Wan];rw[this,zB hroom];omega
 ·have hs:Wt H t (.grow k w)=({{H.setA (H.own t) (growS (H.arn t) H.sp (k:Int)).1 with sp:=(growS (H.arn t) H.sp (k:Int)).2}with ths:=H.ths.set t g},none,0,KM (H.arn t) H.sp (k:Int)):=by
   have:H.ths.set t g=H.ths:=Qm hg;rw[this];simp only[Wt,h0,zq,Hw.setA]
  have e:=Z4 (H1:={H.setA (H.own t) (growS (H.arn t) H.sp (k:Int)).1 with sp:=(growS (H.arn t) H.sp (k:Int)).2}) ht hs;rw[show(Wd.mk H.tb s0 H.ars held).sp=s0 from rfl,←e1]at wi;have hi:=h.upd hg (g':={g with ph:=none}) (live':=H.live) wi e3 e4.l (by simp[Wd.put]) (λp hp _=>.inl hp) (λk' y=>by
   unfold cnT;rw[hph];simp only[cnP]) h.lk (λe' he=>.inl he) (λs a hp=>by cases hp) ⟨hth.ll,hth.lo,hth.hb,hth.hl,by
    unfold PhI;exact hh⟩
  refine⟨StI.mk' hg hth.hl trivial e hi e4,.inr (.inl ?_)⟩;rw[e,hs];exact⟨rfl,h0,rfl,rfl⟩
theorem WlV (h:HI H held s0)(hg:H.ths[t]?=some g)(hph:g.ph=some .fill){cl sz:Int}(hr:Rq H.tb g .fill cl sz):StI H t .fill/\EfM H t .fill cl sz:=by
 have ht:=(gSi.1 hg).1;have hth:=h.th g (h.mem hg);obtain⟨k,x,xs,hh,hk,hos,hxl⟩:∃k x xs,g.hands=[(k,x::xs)]/\k<H.tb.length/\(g.li k).os=[]/\xs.length<=128:=by have:=hth.ph;unfold PhI at this;rw[hph]at this;exact this
 obtain⟨k',ys,r,c,hh',rfl,hc,rfl⟩:=hr;rw[hh]at hh';obtain⟨hkk, -⟩:=List.cons.inj hh';obtain rfl:k=k':=congrArg Prod.fst hkk;obtain⟨l,hl,hli,hlo,hlm⟩:=hth.li hk;have htg:=Gp hg;rw[hli]at hos;have hadd:(addL xs.reverse l).os=xs.reverse:=by unfold addL;rw[hos,zB (by simp;omega)];simp
 have hs:Wt H t .fill=({{H with live:=mset H.live x (x,(c.size:Int),(k:Int),XZ H.ars x)}with ths:=H.ths.set t {ls:=g.ls.set k (addL xs.reverse l),hands:=[],ph:=g.ph}},none,x,0):=by
  simp only[Wt,htg,hh,Ub hc,VH,Zx hg,hli]
 have e:=Z4 ht hs;have hcx:1<=cnT g (k:Int) x:=by
  unfold cnT;rw[hh,KC,zA rfl];have:1<=(x::xs).count x:=zGN.2 (by simp);simp only;omega
 have hu:=h.um_t (h.mem hg) hcx;have hm:=h.not_live (h.mem hg) hcx;obtain⟨ll,lo⟩:=hth.setL (k:=k) (Wcq (xs:=xs.reverse) hlo) (by rw[hadd];simp;omega);have hi:=h.updT hg (g':={ls:=g.ls.set k (addL xs.reverse l),hands:=[],ph:=none}) (live':=mset H.live x (x,(c.size:Int),(k:Int),XZ H.ars x)) (λk' y=>by
  rw[Wcd _ hm];have h1:=GN hl (addL xs.reverse l) k' y;rw[hos,hadd,List.count_reverse,List.count_nil]at h1;have h2:(x::xs).count y=[x].count y+xs.count y:=zDO (l₁:=[x]) (l₂:=xs);unfold cnT;rw[hph,hh];simp only[cnP,KC,VI];by_cases hkk:(k:Int)=k'
  ·simp only[hkk,zO]at h1 ⊢;omega
  ·simp only[hkk,zq]at h1 ⊢;omega)
  (Go.Vc.mset_keys h.lk) (λe' he=>by
   rcases(UJ hm).1 he with he|rfl
   ·exact .inl he
   ·exact .inr (h.lvOf hu hc))
  (λs a hp=>by cases hp) ⟨ll,lo,λb hb=>by simp at hb,by simp,by unfold PhI;rfl⟩
 refine⟨StI.mk' hg hth.hl ⟨k,x,xs,[],by rw[htg];exact hh,hk,(h.i63 hu).1,by rw[htg,hli,hos];simp;omega⟩ e hi (KS.refl _),.inr (.inr ?_)⟩;rw[e,hs];exact⟨rfl,rfl,hm,rfl⟩
theorem WjA (h:HI H held s0)(hg:H.ths[t]?=some g){m:Nat}(hph:g.ph=some (.large m)){cl sz:Int}(hr:Rq H.tb g (.large m) cl sz):StI H t (.large m)/\EfM H t (.large m) cl sz:=by
 have ht:=(gSi.1 hg).1;have hth:=h.th g (h.mem hg);obtain⟨hh,hm1,hm2⟩:g.hands=[]/\1<=m/\m<=64:=by have:=hth.ph;unfold PhI at this;rw[hph]at this;exact this
 obtain⟨rfl,rfl⟩:=hr;have hA:=h.arn t;have ga:=h.wi.ga _ _ hA;obtain⟨e1,e2,e5,e3,e4⟩:=h.sim.takeAS (H.arn t) (m:Int) 1;have wi:=h.wi.takeP hA (m:Int) 1;rw[show(Wd.mk H.tb s0 H.ars held).sp=s0 from rfl,←e1,←e2,←e5]at wi;by_cases h0:Qw (H.arn t) H.sp (m:Int) 1=0
 ·rw[zA h0]at wi;have hnew:=WiE wi;have happ:=Wle (held:=held) (new:=[(⟨H.own t, -1,Z6 (H.arn t) H.sp (m:Int) 1*256,(m:Int).toNat*256,false⟩:Pc)]) (cl:=-1) (l:=[((Z6 (H.arn t) H.sp (m:Int) 1*256:Nat):Int)]) (λp hp=>by
   simp only[zZ]at hp;subst hp;exact⟨rfl,rfl,by simp⟩) λx hx=>by
   simp only[zZ]at hx;subst hx;exact⟨_,zZ.2 rfl,rfl⟩
  have hpm:(⟨H.own t, -1,Z6 (H.arn t) H.sp (m:Int) 1*256,(m:Int).toNat*256,false⟩:Pc)∈held++[(⟨H.own t, -1,Z6 (H.arn t) H.sp (m:Int) 1*256,(m:Int).toNat*256,false⟩:Pc)]:=by simp
  have hsz:=wi.size_pos hpm;have hadr:=wi.addr_lt hpm;have how:=wi.owner hpm (x:=Z6 (H.arn t) H.sp (m:Int) 1*256) (zC _) (by simp only at hsz ⊢;omega);generalize hV:Z6 (H.arn t) H.sp (m:Int) 1=V at *;have hmn:mget H.live ((V*256:Nat):Int)=none:=h.not_um λk' hu=>hnew _ (zZ.2 rfl) k' hu;have hs:Wt H t (.large m)=({{H.setA (H.own t) (takeAS (H.arn t) H.sp (m:Int) 1).1 with sp:=(takeAS (H.arn t) H.sp (m:Int) 1).2,live:=mset H.live ((V*256:Nat):Int) (((V*256:Nat):Int),((m*256:Nat):Int), -1,XZ (H.ars.set (H.own t) (takeAS (H.arn t) H.sp (m:Int) 1).1) ((V*256:Nat):Int))}with ths:=H.ths.set t g},none,((V*256:Nat):Int),0):=by
   have:H.ths.set t g=H.ths:=Qm hg;rw[this];simp only[Wt,h0,zO,Hw.setA,VH,hV]
  have e:=Z4 (H1:={H.setA (H.own t) (takeAS (H.arn t) H.sp (m:Int) 1).1 with sp:=(takeAS (H.arn t) H.sp (m:Int) 1).2,live:=mset H.live ((V*256:Nat):Int) (((V*256:Nat):Int),((m*256:Nat):Int), -1,XZ (H.ars.set (H.own t) (takeAS (H.arn t) H.sp (m:Int) 1).1) ((V*256:Nat):Int))}) ht hs;have hi:=h.upd hg (g':={g with ph:=none}) (live':=mset H.live ((V*256:Nat):Int) (((V*256:Nat):Int),((m*256:Nat):Int), -1,XZ (H.ars.set (H.own t) (takeAS (H.arn t) H.sp (m:Int) 1).1) ((V*256:Nat):Int))) wi e3 e4.l (by simp[Wd.put]) (Wik wi) (λk' y=>by
   rw[Wcd _ hmn,WeF (l:=[((V*256:Nat):Int)]) (cl:=-1) (by simp) (λy hy=>by
    simp only[zZ]at hy;subst hy;exact hnew _ (zZ.2 rfl) _) happ]
   unfold cnT;rw[hph];simp only[cnP];omega) (Go.Vc.mset_keys h.lk) (λe' he=>by
    rcases(UJ hmn).1 he with he|rfl
    ·exact .inl he
    ·refine .inr ⟨rfl,_,hpm,rfl,rfl,rfl,?_,?_⟩
     ·simp
     ·exact how) (λs a hp=>by cases hp) ⟨hth.ll,hth.lo,hth.hb,hth.hl,by
    unfold PhI;exact hh⟩
  refine⟨StI.mk' hg hth.hl ?_ e hi e4,.inr (.inr ?_)⟩
  ·show Z6 (H.arn t) H.sp (m:Int) 1<=1000000;rw[hV];simp only at hadr;omega
  ·rw[e,hs];exact⟨rfl,rfl,hmn,rfl⟩
 ·rw[zB h0]at wi;have hV:Z6 (H.arn t) H.sp (m:Int) 1=0:=by
   unfold Qw at h0;unfold Z6;split
   ·rename_i hp;rw[hp,zA rfl]at h0;split at h0
    ·exact(h0 rfl).elim
    ·rename_i hn;cases hx:(getA (H.arn t) H.sp (m:Int).toNat (1:Int).toNat 41).1 with
     | none=>rfl
     | some y=>rw[hx]at hn;simp at hn
   ·rfl
  have hs:Wt H t (.large m)=({{H.setA (H.own t) (takeAS (H.arn t) H.sp (m:Int) 1).1 with sp:=(takeAS (H.arn t) H.sp (m:Int) 1).2}with ths:=H.ths.set t g},none,0,Qw (H.arn t) H.sp (m:Int) 1):=by
   have:H.ths.set t g=H.ths:=Qm hg;rw[this];simp only[Wt,h0,zq,Hw.setA]
  have e:=Z4 (H1:={H.setA (H.own t) (takeAS (H.arn t) H.sp (m:Int) 1).1 with sp:=(takeAS (H.arn t) H.sp (m:Int) 1).2}) ht hs;have hi:=h.upd hg (g':={g with ph:=none}) (live':=H.live) wi e3 e4.l (by simp[Wd.put]) (λp hp _=>.inl hp) (λk' y=>by
   unfold cnT;rw[hph];simp only[cnP]) h.lk (λe' he=>.inl he) (λs a hp=>by cases hp) ⟨hth.ll,hth.lo,hth.hb,hth.hl,by
    unfold PhI;exact hh⟩
  refine⟨StI.mk' hg hth.hl ?_ e hi e4,.inr (.inl ?_)⟩
  ·show Z6 (H.arn t) H.sp (m:Int) 1<=1000000;rw[hV];omega
  ·rw[e,hs];exact⟨rfl,h0,rfl,rfl⟩
theorem WnV {W:Wd}(h:WI W)(hk:W.ars[k]?=some A){j:Nat}{l:List Int}(hl:∀x∈l,∃p∈W.held,isAt k (j:Int) x p=true)(hn:l.Nodup)(hj:j<W.tb.length):QV A (j:Int) l=0/\WI (W.put k (Y4 A (j:Int) l) W.sp (W.held.filter λp=>!isOf k (j:Int) l p)):=by
 have ga:=h.ga k A hk;have ho:ownW W.held k (j:Int) l=true:=KE.2 ⟨hl,hn⟩;obtain⟨c,ss,_,hc,_⟩:=ga.cl (k:=j) (by rw[h.tb k A hk];exact hj);have hE:QV A (j:Int) l=0:=by
  rw[HR ga hc];refine WgT ⟨λx hx=>?_,hn⟩;obtain⟨p,hp,hpx⟩:=hl x hx;obtain⟨a1,a2,a3,a4⟩:=KB.1 hpx;obtain⟨_,_,_,htk,_⟩:=h.cls hp a2 (by rw[a1];exact hk);rw[a3]at htk;exact(KQ hc).1 htk
 refine⟨hE,?_⟩;have:=h.toC hk ho;rw[zA hE,h.drp ho]at this;exact this
theorem WcV {xs:List Int}{tb:List Cls}{ars0:List AR}(hH:H.tb=tb)(h:WI ⟨tb,s0,H.ars,held⟩)(hk:k<tb.length)(hxs:∀x∈xs,Um held (k:Int) x)(hn:xs.Nodup)(ha:∀p∈held,XZ ars0 (p.addr:Int)=(p.k:Int)):∀j,j<=H.ars.length →
 ∃ars',Vb H k (ZM ars0 xs) (List.range j) = {H with ars:=ars'}/\ars'.length=H.ars.length/\WI ⟨tb,s0,ars',held.filter λp=>!(decide (p.k<j)&&(p.cls==(k:Int)&&xs.contains (p.addr:Int)))⟩
 | 0,_=>by
  refine⟨H.ars,rfl,rfl,?_⟩;have:(held.filter λp=>!(decide (p.k<0)&&(p.cls==(k:Int)&&xs.contains (p.addr:Int))))=held:=zBX.2 λp _=>by simp
  rw[this];exact h
 | j+1,hj=>by
  obtain⟨ars',e,hl,wi⟩:=WcV hH h hk hxs hn ha j (by omega);rw[Vh,e];have hA:ars'[j]?=some (ars'[j]'(by omega)):=gGe _;simp only[hA];have Wcs:∀{p:Pc},p∈held->p.k=j->((p.addr:Int)∈ZM ars0 xs j↔(p.addr:Int)∈xs):=λ{p} hp hpk=>by
   unfold ZM;rw[zG,ha p hp,hpk];simp
  have filt:((held.filter λp=>!(decide (p.k<j)&&(p.cls==(k:Int)&&xs.contains (p.addr:Int)))).filter λp=>!isOf j (k:Int) (ZM ars0 xs j) p)=held.filter λp=>!(decide (p.k<j+1)&&(p.cls==(k:Int)&&xs.contains (p.addr:Int))):=by
   rw[zFT];apply zES;intro p hp;have e1:isOf j (k:Int) (ZM ars0 xs j) p=(p.k==j&&(p.cls==(k:Int)&&xs.contains (p.addr:Int))):=by
    unfold isOf;by_cases hpk:p.k=j
    ·have:=Wcs hp hpk;have e2:(ZM ars0 xs j).contains (p.addr:Int)=xs.contains (p.addr:Int):=by
      rw[zBH,zCV,zCV];exact this
     rw[e2]
    ·have:(p.k==j)=false:=by simpa using hpk
     rw[this];rfl
   rw[e1];have e3:decide (p.k<j+1)=(decide (p.k<j)||p.k==j):=by
    rw[zBH];simp;omega
   rw[e3];cases p.k==j<;>cases decide (p.k<j)<;>cases(p.cls==(k:Int)&&xs.contains (p.addr:Int))<;>rfl
  by_cases hp:ZM ars0 xs j=[]
  ·rw[zA hp];refine⟨ars',rfl,hl,?_⟩;rw[←filt,hp];have:∀p:Pc,(!isOf j (k:Int) [] p)=true:=λp=>by simp[isOf]
   rw[zBX.2 λp _=>this p];exact wi
  ·rw[zB hp];refine⟨ars'.set j (Y4 (ars'[j]'(by omega)) (k:Int) (ZM ars0 xs j)),by simp[Hw.setA],by simp[hl],?_⟩;rw[←filt];refine(WnV wi hA (j:=k) (l:=ZM ars0 xs j) (λx hx=>?_) (hn.sublist zCI) hk).2;unfold ZM at hx;obtain⟨hx1,hx2⟩:=zG.1 hx;obtain⟨p,hp,h1,h2,h3⟩:=hxs x hx1;have hpk:p.k=j:=by
    have:=ha p hp;rw[h3]at this;rw[this]at hx2;have:(p.k:Int)=(j:Int):=by simpa using hx2
    omega
   exact⟨p,zG.2 ⟨hp,by simp[hpk]⟩,KB.2 ⟨hpk,h2,h3,h1⟩⟩
theorem WjU {tb:List Cls}(hH:H.tb=tb)(h:WI ⟨tb,s0,H.ars,held⟩){own:Nat}(hown:own<H.ars.length)(hk:k<tb.length){xs:List Int}(hxs:∀x∈xs,Um held (k:Int) x)(hn:xs.Nodup) :
 ∃ars' held',HM H own k xs = {H with ars:=ars'}/\ars'.length=H.ars.length/\WI ⟨tb,s0,ars',held'⟩/\(∀c x,Um held' c x↔Um held c x/\¬(c=(k:Int)/\x∈xs))/\∀p∈held',p.moved=false->p∈held:=by
 have hA:H.ars[own]?=some H.ars[own]:=gGe hown;have ha:∀p∈held,XZ H.ars (p.addr:Int)=(p.k:Int):=λp hp=>h.owner hp (zC _) (by have:=(h.size_pos hp).1;omega);have all:∃ars' held',Vb H k (ZM H.ars xs) (List.range H.ars.length) = {H with ars:=ars'}/\ars'.length=H.ars.length/\WI ⟨tb,s0,ars',held'⟩/\(∀c x,Um held' c x↔Um held c x/\¬(c=(k:Int)/\x∈xs))/\∀p∈held',p.moved=false->p∈held:=by
  obtain⟨ars',e,hl,wi⟩:=WcV hH h hk hxs hn ha H.ars.length (zC _);refine⟨ars',_,e,hl,wi,λc x=>?_,λp hp _=>(zG.1 hp).1⟩;constructor
  ·rintro⟨p,hp,h1,h2,h3⟩;obtain⟨hp,hf⟩:=zG.1 hp;refine⟨⟨p,hp,h1,h2,h3⟩,?_⟩;rintro⟨rfl,hx⟩;obtain⟨B,hB,_⟩:=h.hf p hp;have hpl:p.k<H.ars.length:=(gSi.1 hB).1;rw[h2,h3]at hf;simp[hpl,hx]at hf
  ·rintro⟨⟨p,hp,h1,h2,h3⟩,hno⟩;refine⟨p,zG.2 ⟨hp,?_⟩,h1,h2,h3⟩;rw[h2,h3];by_cases hc:c=(k:Int)
   ·have:x∉xs:=λhx=>hno ⟨hc,hx⟩;simp[this]
   ·simp[hc]
 unfold HM;rw[hA];simp only;by_cases hcond:(ZM H.ars xs own).length=xs.length/\Vd H.ars[own] (k:Int) xs=true
 ·rw[zA hcond];have hin:∀x∈xs,XZ H.ars x=(own:Int):=by
   have h1:ZM H.ars xs own=xs:=by
    unfold ZM at hcond ⊢;exact List.filter_sublist.eq_of_length hcond.1
   intro x hx;rw[←h1]at hx;unfold ZM at hx;simpa using(zG.1 hx).2
  have ho:ownW held own (k:Int) xs=true:=KE.2 ⟨λx hx=>by
   obtain⟨p,hp,h1,h2,h3⟩:=hxs x hx;have h4:=ha p hp;rw[h3,hin x hx]at h4;exact⟨p,hp,KB.2 ⟨by omega,h2,h3,h1⟩⟩,hn⟩
  have wi:=h.toT hA ho;rw[zA hcond.2]at wi;exact⟨_,_,rfl,by simp[Hw.setA],wi,WkO h ho,WhP⟩
 ·rw[zB hcond];have e:(if(ZM H.ars xs own).length=xs.length then H.setA own (Q8 H.ars[own] (k:Int) xs)else H)=H:=by
   split
   ·rename_i hl;have hv:Vd H.ars[own] (k:Int) xs=false:=by
     apply zBD.2;intro hx;exact hcond ⟨hl,hx⟩
    have:Q8 H.ars[own] (k:Int) xs=H.ars[own]:=by unfold Q8;rw[hv];rfl
    rw[this];exact WcD hA
   ·rfl
  rw[e];exact all
def isF:Ph->Prop
 | .find _=>True
 | .put _ _=>True
 | .back=>True
 | .give _ _=>True
 | .drain=>True
 | _=>False
def Wa5 (g:Th):Ph->Nat
 | .find _=>101
 | .put _ _=>100
 | .drain=>100
 | .back=>g.hands.length
 | _=>0
def EfF (H:Hw)(t:Nat)(g:Th)(p:Ph):Prop:=(Wt H t p).2.2.1=0 ∧
 ((∃p' g',(Wt H t p).2.1=some p'/\isF p'/\(∀x,p'≠.find x)/\(QG H t p).ths[t]?=some g'/\Wa5 g' p'<Wa5 g p)\/(Wt H t p).2.1=none) ∧
 ((∀x,p≠.find x)->(Wt H t p).2.2.2=0/\(QG H t p).live=H.live) ∧
 (∀x,p=.find x->(mget H.live x=none->(Wt H t p).2.1=none/\(Wt H t p).2.2.2≠0/\(QG H t p).live=H.live)/\(∀b,mget H.live x=some b->(Wt H t p).2.2.2=0/\(QG H t p).live=mdel H.live x))
theorem WeG (hg:H.ths[t]?=some g):retH H t=if g.hands=[]then none else some .back:=by unfold retH;rw[hg]
theorem WmR (h:HI H held s0)(hg:H.ths[t]?=some g){x:Int}(hph:g.ph=some (.find x)):StI H t (.find x)/\EfF H t g (.find x):=by
 have ht:=(gSi.1 hg).1;have hth:=h.th g (h.mem hg);obtain⟨hh,hx⟩:g.hands=[]/\I63 x:=by have:=hth.ph;unfold PhI at this;rw[hph]at this;exact this
 have hro:∀A∈H.ars,RunsOk A:=λA hA=>by
  obtain⟨j,hj⟩:=zM hA;exact(h.wi.ga j A hj).runsOk
 cases hm:mget H.live x with
 | none=>
  have hs:Wt H t (.find x)=({H with ths:=H.ths.set t g},none,0,whyH H x):=by
   have:H.ths.set t g=H.ths:=Qm hg;rw[this];simp only[Wt,UX,hm]
  have e:=Z4 ht hs;have hi:=h.updT hg (g':={g with ph:=none}) (live':=H.live) (λk' x=>by
   unfold cnT;rw[hph];simp only[cnP]) h.lk (λe' he=>.inl he) (λs a hp=>by cases hp) ⟨hth.ll,hth.lo,hth.hb,hth.hl,by
    unfold PhI;exact hh⟩
  refine⟨StI.mk' hg hth.hl ⟨hx,λ_=>hro,λb hb=>by rw[hm]at hb;cases hb⟩ e hi (KS.refl _),?_⟩;unfold EfF;rw[e,hs];refine⟨rfl,.inr rfl,λhn=>(hn x rfl).elim,λy hy=>?_⟩;cases hy;refine⟨λ_=>⟨rfl,?_,rfl⟩,(λb hb=>by rw[hm]at hb;cases hb)⟩;show whyH H x≠0;unfold whyH
  repeat' split
  all_goals simp
 | some b=>
  have hme:=Vz hm;obtain⟨_,p,hp,h1,h2,h3,h4,h5⟩:=h.lv _ hme;simp only at h2 h3 h4 h5;have hx0:0<=x:=by omega
  obtain⟨A,hA,hd⟩:=h.wi.hf p hp;have hP:WgA H t (.find x):=⟨hx,(λhn=>by rw[hm]at hn;cases hn),λ_ _=>hx0⟩;rcases hd with⟨c1,_,r,hr,c2,c3⟩|⟨j,c,c1,c2,c3,_⟩
  ·have hneg:b.2.2.1 = -1:=by rw[←h2,c1]
   have hs:Wt H t (.find x)=({{H with live:=mdel H.live x}with ths:=H.ths.set t g},some (.give (x/256) b.2.2.2),0,0):=by
    have:H.ths.set t g=H.ths:=Qm hg;rw[this];simp only[Wt,UX,hm];rw[zA (by omega)]
   have e:=Z4 (H1:={H with live:=mdel H.live x}) ht hs;have hx256:x/256*256=x:=by omega
   have hi:=h.updT hg (g':={g with ph:=some (.give (x/256) b.2.2.2)}) (live':=mdel H.live x) (λk' y=>by
    have h6:=Wcr h.lk hm k' y;rw[hneg]at h6;unfold cnT;rw[hph];simp only[cnP,hx256];by_cases hy:x=y
    ·subst hy;rw[zGO]at h6;by_cases hk : -1=k'
     ·rw[zA hk]at h6;rw[zA ⟨hk.symm,rfl⟩];omega
     ·rw[zB hk]at h6;rw[zB (λhx=>hk hx.1.symm)];omega
    ·have:[x].count y=0:=zEK.2 (by simp;omega);rw[this]at h6;rw[zB (λhx=>hy hx.2.symm)];split at h6<;>omega)
    (Go.Vc.mdel_keys h.lk) (λe' he=>.inl (He.1 he).1) (λs a hsa=>by
     cases hsa;exact⟨p,hp,h1,c1,by rw[hx256];exact h3,h5⟩) ⟨hth.ll,hth.lo,hth.hb,hth.hl,by
      unfold PhI;exact hh⟩
   refine⟨StI.mk' hg hth.hl hP e hi (KS.refl _),?_⟩;unfold EfF;rw[e,hs];refine⟨rfl,.inl ⟨_,_,rfl,trivial,(λy hy=>by cases hy),zK ht,by simp[Wa5]⟩,λhn=>(hn x rfl).elim,λy hy=>?_⟩;cases hy;exact⟨(λhn=>by rw[hm]at hn;cases hn),λ_ _=>⟨rfl,rfl⟩⟩
  ·have hbj:b.2.2.1=(j:Int):=by rw[←h2,c1]
   have hjl:j<H.tb.length:=by
    rw[h.wi.tb _ _ hA]at c2;exact(gSi.1 c2).1
   have hs:Wt H t (.find x)=({{H with live:=mdel H.live x}with ths:=H.ths.set t {g with hands:=[(j,[x])]}},some (.put j x),0,0):=by
    simp only[Wt,UX,hm];rw[zB (by omega),hbj,iTn];unfold QP;rw[Zx (g:=g) (by exact hg),hh];rfl
   have e:=Z4 (H1:={H with live:=mdel H.live x}) ht hs;have hi:=h.updT hg (g':={g with hands:=[(j,[x])],ph:=some (.put j x)}) (live':=mdel H.live x) (λk' y=>by
    have h6:=Wcr h.lk hm k' y;rw[hbj]at h6;unfold cnT;rw[hph,hh];simp only[cnP,KC,VI];omega)
    (Go.Vc.mdel_keys h.lk) (λe' he=>.inl (He.1 he).1) (λs a hsa=>by cases hsa) ⟨hth.ll,hth.lo,λb' hb'=>by
     simp only[zZ]at hb';subst hb';exact⟨hjl,by simp,by simp⟩,by simp,by
     unfold PhI;exact⟨rfl,hjl⟩⟩
   refine⟨StI.mk' hg hth.hl hP e hi (KS.refl _),?_⟩;unfold EfF;rw[e,hs];refine⟨rfl,.inl ⟨_,_,rfl,trivial,(λy hy=>by cases hy),zK ht,by simp[Wa5]⟩,λhn=>(hn x rfl).elim,λy hy=>?_⟩;cases hy;exact⟨(λhn=>by rw[hm]at hn;cases hn),λ_ _=>⟨rfl,rfl⟩⟩
theorem We1 {f:Cls->Li->List Int×Li}{tb:List Cls}{ls:List Li}{b:Bt}(h:b∈Ke f tb ls):b.1<tb.length/\b.2≠[]/\∃c∈tb,∃l∈ls,b.2=(f c l).1:=by
 unfold Ke at h;obtain⟨k,hk,he⟩:=zDY.1 h;split at he
 ·rename_i c l hc hl;split at he
  ·cases he
  ·cases he;exact⟨zb.1 hk,by assumption,c,zE hc,l,zE hl,rfl⟩
 ·cases he
theorem Wfh {f:Cls->Li->List Int×Li}{tb:List Cls}{ls:List Li}{l':Li}(h:l'∈Ka f tb ls):∃c∈tb,∃l∈ls,l'=(f c l).2:=by
 unfold Ka at h;obtain⟨i,hi⟩:=zM h;rw[zGK]at hi;split at hi
 ·rename_i c l hc hl;cases hi;exact⟨c,zE hc,l,zE hl,rfl⟩
 ·cases hi
theorem We0 {f:Cls->Li->List Int×Li}{tb:List Cls}{ls:List Li}(h:ls.length=tb.length):(Ka f tb ls).length=tb.length:=by
 unfold Ka;rw[List.length_zipWith];omega
theorem WfE (c:Cls)(l:Li):(KH c l).2.os.length<=l.os.length/\(KH c l).1.length<=l.os.length:=by
 simp only[KH,oldL,zm,zV];omega
theorem Wdx (c:Cls)(l:Li):(ZO c l).2.os.length<=l.os.length/\(ZO c l).1.length<=l.os.length:=by
 simp only[ZO,oldL,zm,zV];omega
theorem Wke (h:HI H held s0)(hg:H.ths[t]?=some g)(hph:g.ph=some .drain):StI H t .drain/\EfF H t g .drain:=by
 have ht:=(gSi.1 hg).1;have hth:=h.th g (h.mem hg);have hh:g.hands=[]:=by have:=hth.ph;unfold PhI at this;rw[hph]at this;exact this
 have h40:=h.tb40;have hol:=WaZ ZO H.tb g.ls;have hs:Wt H t .drain=({H with ths:=H.ths.set t {g with ls:=Ka ZO H.tb g.ls,hands:=Ke ZO H.tb g.ls}},(if Ke ZO H.tb g.ls=[]then none else some .back),0,0):=by
  simp only[Wt,Zx hg];rw[WeG (g:={g with ls:=Ka ZO H.tb g.ls,hands:=Ke ZO H.tb g.ls}) (by simp[ht])]
 have e:=Z4 ht hs;have hi:=h.updT hg (g':={ls:=Ka ZO H.tb g.ls,hands:=Ke ZO H.tb g.ls,ph:=if Ke ZO H.tb g.ls=[]then none else some .back}) (live':=H.live) (λk' x=>by
  have h1:=cnF (f:=ZO) Whs hth.ll k' x;unfold cnT;rw[hph,hh];have:cnP (if Ke ZO H.tb g.ls=[]then none else some Ph.back) k' x=0:=by split<;>rfl
  simp only[this,VI];simp only[cnP];omega) h.lk (λe' he=>.inl he) (λs a hp=>by
   simp only at hp;split at hp<;>cases hp) ⟨We0 hth.ll,λl hl=>by
   obtain⟨c,_,l0,hl0,rfl⟩:=Wfh hl;have:=hth.lo l0 hl0;have:=Wdx c l0;exact⟨Wht (hth.lo l0 hl0).1,by omega⟩,λb hb=>by
   obtain⟨b1,b2,c,_,l0,hl0,b3⟩:=We1 hb;have:=hth.lo l0 hl0;have:=Wdx c l0;exact⟨b1,b2,by rw[b3];omega⟩,by simp only;omega,by
   unfold PhI;by_cases ho:Ke ZO H.tb g.ls=[]
   ·rw[zA ho];exact ho
   ·rw[zB ho];exact ho⟩
 refine⟨StI.mk' hg hth.hl trivial e hi (KS.refl _),?_⟩;unfold EfF;rw[e,hs];refine⟨rfl,?_,λ_=>⟨rfl,rfl⟩,λx hx=>by cases hx⟩;by_cases ho:Ke ZO H.tb g.ls=[]
 ·exact .inr (by simp only;rw[zA ho])
 ·exact .inl ⟨.back,_,by simp only;rw[zB ho],trivial,(λy hy=>by cases hy),zK ht,by simp only[Wa5];omega⟩
theorem Wm6 (h:HI H held s0)(hg:H.ths[t]?=some g){s a:Int}(hph:g.ph=some (.give s a)):StI H t (.give s a)/\EfF H t g (.give s a):=by
 have ht:=(gSi.1 hg).1;have hth:=h.th g (h.mem hg);have hh:g.hands=[]:=by have:=hth.ph;unfold PhI at this;rw[hph]at this;exact this
 obtain⟨p,hp,h1,h2,h3,h4⟩:=h.gv g (h.mem hg) s a hph;obtain⟨A,hA,_⟩:=h.wi.hf p hp;have hA':H.ars[p.k]?=some A:=hA;have hal:=(gSi.1 hA').1;obtain⟨_,r,hr,c2,c3⟩:=h.wi.run hp h2 hA;have ga:=h.wi.ga _ _ hA;have hs256:s=(r.1:Int):=by omega
 have hE:KP A s=0:=by
  unfold KP;rw[zA];unfold Wa6;rw[zGE];exact⟨r,hr,by simp[hs256]⟩
 have ho:ownW held p.k (-1) [s*256]=true:=by rw[hs256];exact h.wi.giveOwn hA hr
 have wi:=h.wi.giveP hA s;rw[zA hE,h.wi.drp ho]at wi;have hant:a.toNat=p.k:=by omega
 have hs:Wt H t (.give s a)=({H.setA p.k (QF A s)with ths:=H.ths.set t g},none,0,0):=by
  have:H.ths.set t g=H.ths:=Qm hg;rw[this];simp only[Wt,hant,hA',Hw.setA]
 have e:=Z4 (H1:=H.setA p.k (QF A s)) ht hs;have hi:=h.upd hg (g':={g with ph:=none}) (live':=H.live) wi h.sim rfl (by simp[Wd.put]) (λq hq _=>.inl (zG.1 hq).1) (λk' x=>by
  have h6:=WiX (held':=held.filter λp'=>!isOf p.k (-1) [s*256] p') (l:=[s*256]) (cl:=-1) (by simp) (WnT ho) (WmE h.wi ho) k' x;have h6:cnW held k' x=cnW (held.filter λp'=>!isOf p.k (-1) [s*256] p') k' x+(if -1=k' then[s*256].count x else 0):=h6
  unfold cnT;rw[hph];simp only[cnP];by_cases hy:s*256=x
  ·subst hy;rw[zGO]at h6;by_cases hk : -1=k'
   ·rw[zA hk]at h6;rw[zA ⟨hk.symm,rfl⟩];omega
   ·rw[zB hk]at h6;rw[zB (λhx=>hk hx.1.symm)];omega
  ·have:[s*256].count x=0:=zEK.2 (by simp;omega);rw[this]at h6;rw[zB (λhx=>hy hx.2.symm)];split at h6<;>omega) h.lk (λe' he=>.inl he) (λs a hp=>by cases hp) ⟨hth.ll,hth.lo,hth.hb,hth.hl,by
   unfold PhI;exact hh⟩
 refine⟨StI.mk' hg hth.hl ⟨by omega,by omega,λB hB q hq=>?_⟩ e hi (KS.refl _),?_⟩
 ·obtain⟨j,hj⟩:=zM hB;have gb:=h.wi.ga j B hj;have:=gb.fit hq;have:=gb.pg.n2;omega
 ·unfold EfF;rw[e,hs];exact⟨rfl,.inr rfl,λ_=>⟨rfl,rfl⟩,λx hx=>by cases hx⟩
theorem Wmj (h:HI H held s0)(hg:H.ths[t]?=some g)(hph:g.ph=some .back):StI H t .back/\EfF H t g .back:=by
 have ht:=(gSi.1 hg).1;have hth:=h.th g (h.mem hg);have hh:g.hands≠[]:=by have:=hth.ph;unfold PhI at this;rw[hph]at this;exact this
 have htg:=Gp hg;cases hhd:g.hands with
 | nil=>exact(hh hhd).elim
 | cons b r=>
  obtain⟨k,xs⟩:=b;obtain⟨hk,hxne,hxl⟩:=hth.hb (k,xs) (by rw[hhd];simp);simp only at hk hxne hxl;have hcnt:∀x,xs.count x<=cnT g (k:Int) x:=λx=>by
   unfold cnT;rw[hhd,KC,zA rfl];simp only;omega
  have hum:∀x∈xs,Um held (k:Int) x:=λx hx=>h.um_t (h.mem hg) (zN (zGN.2 hx) (hcnt x));have hnd:xs.Nodup:=zGM.2 λx=>by
   have h1:=hcnt x;have h2:=h.cnT_le (h.mem hg) (k:Int) x;have h3:=Wli held (k:Int) x;omega
  obtain⟨ars',held',eb,hal,wi,um,sub⟩:=WjU (H:={H with ths:=H.ths.set t {g with hands:=r}}) (tb:=H.tb) rfl h.wi (h.own_lt t) hk hum hnd;have hs:Wt H t .back=({{H with ars:=ars'}with ths:=H.ths.set t {g with hands:=r}},(if r=[]then none else some .back),0,0):=by
   simp only[Wt,htg,hhd,Zx hg,eb];rw[WeG (g:={g with hands:=r}) (by simp[ht])]
  have e:=Z4 (H1:={H with ars:=ars'}) ht hs;have hi:=h.upd hg (g':={g with hands:=r,ph:=if r=[]then none else some .back}) (live':=H.live) wi h.sim rfl hal (λp hp hm=>.inl (sub p hp hm)) (λk' x=>by
   have h1:=WiX hnd hum um k' x;unfold cnT;rw[hph,hhd,KC];have:cnP (if r=[]then none else some Ph.back) k' x=0:=by split<;>rfl
   simp only[this];simp only[cnP];omega) h.lk (λe' he=>.inl he) (λs a hp=>by
    simp only at hp;split at hp<;>cases hp) ⟨hth.ll,hth.lo,λb hb=>hth.hb b (by rw[hhd];exact zAU _ hb),by have:=hth.hl;rw[hhd]at this;simp at this ⊢;omega,by
    unfold PhI;by_cases ho:r=[]
    ·rw[zA ho];exact ho
    ·rw[zB ho];exact ho⟩
  refine⟨StI.mk' hg hth.hl ⟨k,xs,r,by rw[htg];exact hhd,λx hx=>⟨(h.i63 (hum x hx)).1,(h.i63 (hum x hx)).2.2⟩,by omega⟩ e hi (KS.refl _),?_⟩;unfold EfF;rw[e,hs];refine⟨rfl,?_,λ_=>⟨rfl,rfl⟩,λx hx=>by cases hx⟩;by_cases ho:r=[]
  ·exact .inr (by simp only;rw[zA ho])
  ·exact .inl ⟨.back,_,by simp only;rw[zB ho],trivial,(λy hy=>by cases hy),zK ht,by simp only[Wa5];rw[hhd];simp⟩
theorem Wn4 (h:HI H held s0)(hg:H.ths[t]?=some g){x:Int}(hph:g.ph=some (.put k x)):StI H t (.put k x)/\EfF H t g (.put k x):=by
 have ht:=(gSi.1 hg).1;have hth:=h.th g (h.mem hg);obtain⟨hh,hk⟩:g.hands=[(k,[x])]/\k<H.tb.length:=by have:=hth.ph;unfold PhI at this;rw[hph]at this;exact this
 obtain⟨c,hc,hok⟩:=h.cls hk;obtain⟨l,hl,hli,hlo,hlm⟩:=hth.li hk;have htg:=Gp hg;have h40:=h.tb40;have hpo:=WlM (x:=x) hok hlo;have hpc:=WmV c x l (by omega);have hol:(putL c x l).1.length<=129/\(putL c x l).2.os.length<=128:=by
  have hlim:=hlo.lim;have hadd:(addL [x] l).os=l.os++[x]:=by unfold addL;rw[zB (by simp;omega)]
  have hup:(upL c (addL [x] l)).os=l.os++[x]:=by rw[←hadd];unfold upL;split<;>rfl
  unfold Cls.ok at hok;unfold putL;rw[zB (by omega)];split
  ·rw[hadd];simp;omega
  ·simp only[oldL,hup,zV,zm,zP,zGJ];omega
 obtain⟨ll,lo⟩:=hth.setL (k:=k) hpo hol.2;have hhe:∃hs:List Bt,(if(putL c x l).1=[]then[]else[(k,(putL c x l).1)])=hs:=⟨_,rfl⟩
 obtain⟨hs2,hhs2⟩:=hhe;have hs2l:hs2.length<=1:=by rw[←hhs2];split<;>simp
 have hs2b:∀b∈hs2,b.1<H.tb.length/\b.2≠[]/\b.2.length<=256:=λb hb=>by
  rw[←hhs2]at hb;split at hb
  ·simp at hb
  ·simp only[zZ]at hb;subst hb;exact⟨hk,by assumption,by simp only;omega⟩
 have hs2c:∀k' y,cnB hs2 k' y=if(k:Int)=k' then(putL c x l).1.count y else 0:=λk' y=>by
  rw[←hhs2];split
  ·rename_i hn;rw[hn,VI];simp
  ·simp only[KC,VI,zp]
 let g3:Th:={g with ls:=g.ls.set k (putL c x l).2,hands:=hs2}
 let g4:Th:=if H.cf.budget<Q3 H.tb g3.ls then{g3 with ls:=Ka KH H.tb g3.ls,hands:=g3.hands++Ke KH H.tb g3.ls}else g3
 have hpe:putH H t k x = {H with ths:=H.ths.set t g4}:=by
  have e2:(if(putL c x l).1=[]then H.setT t λh=>h.setL k (putL c x l).2 else QP (H.setT t λh=>h.setL k (putL c x l).2) t k (putL c x l).1) = {H with ths:=H.ths.set t {g with ls:=g.ls.set k (putL c x l).2,hands:=(k,[x])::hs2}}:=by
   rw[←hhs2];split
   ·rw[Zx hg,←hh];rfl
   ·rw[Zx hg];unfold QP;rw[Zx (g:=g.setL k (putL c x l).2) (by simp[ht])];simp only[zBL,Th.setL,hh];rfl
  have e3:({H with ths:=H.ths.set t {g with ls:=g.ls.set k (putL c x l).2,hands:=(k,[x])::hs2}}:Hw).setT t (λh=>{h with hands:=h.hands.drop 1}) = {H with ths:=H.ths.set t g3}:=by
   rw[Zx (g:={g with ls:=g.ls.set k (putL c x l).2,hands:=(k,[x])::hs2}) (by simp[ht])];simp only[zBL,zFD,List.drop_zero];rfl
  have hg3e:({H with ths:=H.ths.set t g3}:Hw).ths[t]?=some g3:=by simp[ht]
  unfold putH;simp only[Ub hc,htg,hli,e2,e3,Gp hg3e,Zx hg3e,zBL];show(if H.cf.budget<Q3 H.tb g3.ls then _ else _)=_
  simp only[g4];split<;>rfl
 have hg4:g4.ph=g.ph:=by simp only[g4];split<;>rfl
 have g4c:∀k' y,cnL g4.ls k' y+cnB g4.hands k' y=cnL g.ls k' y+cnB g.hands k' y:=λk' y=>by
  have h1:=GN hl (putL c x l).2 k' y;have h2:=hpc y;have h3:cnL g3.ls k' y+cnB g3.hands k' y=cnL g.ls k' y+cnB g.hands k' y:=by
   simp only[g3];rw[hs2c,hh,KC,VI];by_cases hkk:(k:Int)=k'
   ·simp only[hkk,zO]at h1 ⊢;omega
   ·simp only[hkk,zq]at h1 ⊢;omega
  simp only[g4];split
  ·have h4:=cnF (f:=KH) Wja (tb:=H.tb) (ls:=g3.ls) ll k' y;simp only[Wbu];omega
  ·exact h3
 have g4l:g4.ls.length=H.tb.length/\(∀l∈g4.ls,LiOk l/\l.os.length<=128)/\(∀b∈g4.hands,b.1<H.tb.length/\b.2≠[]/\b.2.length<=256)/\g4.hands.length<=41:=by
  have hsl:=WaZ KH H.tb g3.ls;simp only[g4];split
  ·refine⟨We0 ll,λl hl=>?_,λb hb=>?_,by simp only[zP,g3]at *;omega⟩
   ·obtain⟨c',hc',l0,hl0,rfl⟩:=Wfh hl;have h5:=lo l0 hl0;have:=WfE c' l0;exact⟨WeW (h.ok c' hc') h5.1,by omega⟩
   ·rcases zS.1 hb with hb|hb
    ·exact hs2b b hb
    ·obtain⟨b1,b2,c',_,l0,hl0,b3⟩:=We1 hb;have h5:=lo l0 hl0;have:=WfE c' l0;exact⟨b1,b2,by rw[b3];omega⟩
  ·exact⟨ll,lo,hs2b,by simp only[g3];omega⟩
 have hs:Wt H t (.put k x)=({H with ths:=H.ths.set t g4},(if g4.hands=[]then none else some .back),0,0):=by
  show(putH H t k x,retH (putH H t k x) t,0,0)=_;rw[hpe,WeG (g:=g4) (by simp[ht])]
 have e:=Z4 ht hs;have hi:=h.updT hg (g':={g4 with ph:=if g4.hands=[]then none else some .back}) (live':=H.live) (λk' y=>by
  have h1:=g4c k' y;unfold cnT;rw[hph];have:cnP (if g4.hands=[]then none else some Ph.back) k' y=0:=by split<;>rfl
  simp only[this];simp only[cnP];omega) h.lk (λe' he=>.inl he) (λs a hp=>by
   simp only at hp;split at hp<;>cases hp) ⟨g4l.1,g4l.2.1,g4l.2.2.1,g4l.2.2.2,by
   unfold PhI;by_cases ho:g4.hands=[]
   ·simp only[ho,zO]
   ·simp only[ho,zq];exact ho⟩
 refine⟨StI.mk' hg hth.hl ⟨hk,by rw[htg,hh];simp⟩ e hi (KS.refl _),?_⟩;unfold EfF;rw[e,hs];refine⟨rfl,?_,λ_=>⟨rfl,rfl⟩,λx hx=>by cases hx⟩;by_cases ho:g4.hands=[]
 ·exact .inr (by simp only;rw[zA ho])
 ·exact .inl ⟨.back,_,by simp only;rw[zB ho],trivial,(λy hy=>by cases hy),zK ht,by simp only[Wa5];have:=g4l.2.2.2;omega⟩
end Go.Ar
namespace Go.Ar
open Go Go.Vc Go.Proofs
open Go.Bu (isPow WaX WeA)
variable {U u w w':Hp}{F B P Q:Rg}{L:LayH}{H H':Hw}{t n:Nat}{g:Th}
def WaW (size:Int):Int:=(size+255)/256*256
def KI (tb:List Cls)(size align:Int):Int×Int:=
 if size<=16384/\Ku size align=true then(match clsV tb size align with
  | some k=>((tb.getD k ⟨8,1,1⟩).size:Int)
  | none=>WaW size,0)else(0,1)
theorem WjI {a:Int}(h1:1<=a)(h2:a<=256):(bits .and .i64 a (a-1) != 0) = !isPow a:=by
 obtain⟨a,rfl⟩:=zg (show 0<=a by omega);rw[show(a:Int)-1=((a-1:Nat):Int) by omega,Go.Bu.bits_and_i64 (by omega) (by omega),WaX,←WeA (by omega) (by omega)];simp only[bne,Bool.not_inj_iff];rw[zBH];simp only[zY];omega
theorem WaE (h:HH U F L H)(hc:CfOk H)(size align:Int){R:Int->Int->Hp->Prop}(hR:∀σ',Ext0 U σ'->R (KI H.tb size align).1 (KI H.tb size align).2 σ'):ZQ.c (some ⟨L.p,0,none⟩) size align U R:=by
 refine ZQ.o ?_;unfold ZQ.v;refine WcG h hc λv e=>ifF rfl ?_;have h':=h.keep0 e;have bad:(size<=16384/\Ku size align=true->False)->R 0 1 v:=λhn=>by
  have:=hR v e;unfold KI at this;rw[zB hn]at this;exact this
 have key:∀r,r = !decide (size<=16384/\Ku size align=true)->(If r (R 0 1 v) (YJ.c (some ⟨L.p,0,none⟩) v λtable v5=>ZP.c table size align v5 λt44 t441 v6=>If (t441==0) (Ix table.a table.len t44 3 λa51=>LdI .i64 (a51.add 0) v6 λt53=>R t53 0 v6) (Ar .i64 (size+256) λt55=>Ar .i64 (t55-1) λt56=>Nz 256<|Ar .i64 (t56.tdiv 256) λt57=>Ar .i64 (t57*256) λt58=>R t58 0 v6))):=by
  intro r hr;by_cases hok:size<=16384/\Ku size align=true
  ·rw[zH hok]at hr;have hs1:=hok.2;simp only[Ku,zF,zQ]at hs1;refine ifF (by rw[hr];rfl) (Wg0 h' h.tb40 λs v5 e5 hs=>Wfo (Wfz hs) hc.2.2 size align λv6 e6=>?_);have hR6:=hR v6 ((e.trans e5).trans e6);unfold KI at hR6;rw[zA hok]at hR6;rw[hok.2,Wfx];cases hcl:clsV H.tb size align with
   | some k=>
    rw[hcl]at hR6;have hk:k<H.tb.length:=(zGL.1 hcl).1;have hck:H.tb[k]?=some H.tb[k]:=gGe hk;have hcd:H.tb.getD k ⟨8,1,1⟩=H.tb[k]:=by rw[zL,hck];rfl
    simp only[hcd]at hR6;refine ifT rfl (Gq ((SlR.loc _ _ _).keep0 ((SlR.loc _ _ _).cut hs) e6) hck (d:=0) (by omega) ?_);simp only[zO];exact hR6
   | none=>
    rw[hcl]at hR6;refine ifF rfl (ar (by omega) (by omega) (ar (by omega) (by omega) (nz (by decide) (ar (by rw[Xn (by omega)];omega) (by rw[Xn (by omega)];omega) ?_))));rw[Xn (by omega)];refine ar (by omega) (by omega) ?_;have:(size+256-1)/256*256=WaW size:=by unfold WaW;omega
    rw[this];exact hR6
  ·rw[zJ hok]at hr;exact ifT (by rw[hr];rfl) (bad hok)
 refine QM (λr w=>w=v/\r = !decide (1<=size/\size<=16384)) (λr w ⟨hw,hr⟩=>?_) λJ hJ=>ifD (λh1=>hJ _ _ ⟨rfl,by rw[zJ (by omega)];rfl⟩) λh1=>hJ _ _ ⟨rfl,?_⟩
 ·subst hw;refine QM (λr w2=>w2=w/\r = !decide (1<=size/\size<=16384/\1<=align)) (λr w2 ⟨hw,hr1⟩=>?_) λJ1 hJ1=>?_
  ·rw[hw];refine QM (λr w2=>w2=w/\r = !decide (1<=size/\size<=16384/\1<=align/\align<=256)) (λr w2 ⟨hw,hr2⟩=>?_) λJ2 hJ2=>?_
   ·rw[hw];refine QM (λr w2=>w2=w/\r = !decide (size<=16384/\Ku size align=true)) (λr w2 ⟨hw,hr3⟩=>by rw[hw];exact key r hr3) λJ3 hJ3=>?_;by_cases hb:1<=size/\size<=16384/\1<=align/\align<=256
    ·refine ifF (by rw[hr2,zH hb];rfl) (ar (by omega) (by omega) (hJ3 _ _ ⟨rfl,?_⟩));rw[WjI hb.2.2.1 hb.2.2.2];have:Ku size align=isPow align:=by
      unfold Ku;rw[zH hb.1,zH hb.2.2.1,zH hb.2.2.2];rfl
     rw[this];cases hp:isPow align
     ·rw[zJ (by simp)]
     ·rw[zH (by simp;omega)]
    ·refine ifT (by rw[hr2,zJ hb];rfl) (hJ3 _ _ ⟨rfl,?_⟩);rw[zJ];rfl;rintro⟨q1,q2⟩;simp only[Ku,zF,zQ]at q2;exact hb ⟨q2.1,q1,q2.2.1,q2.2.2.1⟩
   ·by_cases hb:1<=size/\size<=16384/\1<=align
    ·refine ifF (by rw[hr1,zH hb];rfl) (hJ2 _ _ ⟨rfl,?_⟩);by_cases h3:align>256
     ·rw[zH h3,zJ (by omega)];rfl
     ·rw[zJ h3,zH (by omega)];rfl
    ·exact ifT (by rw[hr1,zJ hb];rfl) (hJ2 _ _ ⟨rfl,by rw[zJ (by omega)];rfl⟩)
  ·by_cases hb:1<=size/\size<=16384
   ·refine ifF (by rw[hr,zH hb];rfl) (hJ1 _ _ ⟨rfl,?_⟩);by_cases h3:align<1
    ·rw[zH h3,zJ (by omega)];rfl
    ·rw[zJ h3,zH (by omega)];rfl
   ·exact ifT (by rw[hr,zJ hb];rfl) (hJ1 _ _ ⟨rfl,by rw[zJ (by omega)];rfl⟩)
 ·by_cases h3:size>16384
  ·rw[zH h3,zJ (by omega)];rfl
  ·rw[zJ h3,zH (by omega)];rfl
def Kb (sp:Sp)(x:Int):Int:=if accE sp x=0 then sp.wd (x.toNat/8)else 0
def Ug (sp:Sp)(to fr:Int)(n:Nat):Sp:=(List.range n).foldl (λs (i:Nat)=>Kt s (to+(i:Int)*8) (Kb sp (fr+(i:Int)*8))) sp
theorem WfF (x:Int)(h0:0<=x)(h1:x<=1000000000000){R:Int->Hp->Prop}(hR:R (x/8) U):ZK.c x U R:=by
 refine ZK.o ?_;unfold ZK.v;refine nz (by decide) (ar (by rw[Xn (by omega)];omega) (by rw[Xn (by omega)];omega) ?_);rw[Xn h0];exact hR
theorem Vi (h:HH U F L H)(x:Int)(hx:x<=9223372036854775807){R:Int->Int->Hp->Prop}(hR:∀σ',Ext0 U σ'->R (Kb H.sp x) (accE H.sp x) σ'):W9.c (some ⟨L.p,0,none⟩) x U R:=WkT h x hx hR
theorem Wjv (h:HH U F L H)(to fr:Int)(n:Nat)(ht0 : -1000000000000<=to)(ht:to<=500000000000)(hf0 : -1000000000000<=fr)(hf:fr<=500000000000)(hn:n<=1000000){R:Hp->Prop}
 (hR:∀σ',Ext F U σ'->HH σ' (Grow F U) L {H with sp:=Ug H.sp to fr n}->R σ'):ZW.c (some ⟨L.p,0,none⟩) to fr (n:Int) U R:=by
 refine ZW.o ?_;unfold ZW.v;refine mk (n:=n) (by omega) (by omega) λv hz e hb=>?_;have K1:=(HK.start h).box e hz;refine ZD (a:=.i .i64) (λ(z:Int) w=>∃(i:Nat) (cs:List Value),z=(i:Int)/\i<=n/\HK F U (λb=>False\/b=U.size) w (Cut F U) L H/\Blk w U.size cs/\cs.length=n/\∀j,j<i->cs[j]?=some (.int .i64 (Kb H.sp (fr+(j:Int)*8)))) (λz _=>n-z.toNat) ⟨0,_,rfl,by omega,K1,hb,by simp,λj hj=>by omega⟩ ?_;rintro(z:Int) w ⟨i,cs,rfl,hi,K,hbw,hcl,hrd⟩;refine ifD (λhlt=>?_) λhge=>?_
 ·refine ar (by omega) (by omega) (ar (by omega) (by omega) (Vi K.h _ (by omega) λw1 e1=>?_));have K1:=K.fr e1;refine ix (by omega) (by simp only;omega) ?_;rw[add_lit,show 0+(i:Int).toNat*1=i by omega];refine(e1.blk hbw id).s0 (by omega) λw2 o2 hb2=>?_;refine arN (m:=i+1) (by omega) (by omega) ⟨⟨i+1,_,rfl,by omega,K1.own o2 (.inr rfl),hb2,by simp[hcl],λj hj=>?_⟩,by omega⟩;by_cases hji:j=i
  ·subst hji;rw[zK (by omega)]
  ·rw[zd (by omega)];exact hrd j (by omega)
 ·have hin:i=n:=by omega
  subst hin;refine ZD (a:=.i .i64) (λ(z:Int) w=>∃(j:Nat) (P:Rg),z=(j:Int)/\j<=i/\HK F U (λb=>False\/b=U.size) w P L {H with sp:=Ug H.sp to fr j}/\Blk w U.size cs) (λz _=>i-z.toNat) ⟨0,_,rfl,by omega,K,hbw⟩ ?_;rintro(z:Int) w ⟨j,P,rfl,hj,K,hbw⟩;refine ifD (λhlt=>?_) λhge=>?_
  ·simp only at hlt;refine ix (by omega) (by simp only;omega) ?_;rw[add_lit,show 0+(j:Int).toNat*1=j by omega];refine hbw.rI0 (hrd j (by omega)) (ar (by omega) (by omega) (ar (by omega) (by omega) (Hk K.h _ _ (by omega) λw1 e1 h1=>?_)));have K1:=K.to e1 h1 λb _ hb=>hb;have hsn:Kt (Ug H.sp to fr j) (to+(j:Int)*8) (Kb H.sp (fr+(j:Int)*8))=Ug H.sp to fr (j+1):=by
    unfold Ug;rw[zt,zAE];rfl
   simp only[hsn]at K1;exact arN (m:=j+1) (by omega) (by omega) ⟨⟨j+1,_,rfl,by omega,K1,K.keepB e1 hbw (.inr rfl)⟩,by omega⟩
  ·have hji:j=i:=by simp only at hge;omega
   subst hji;exact hR w K.e (K.fin h)
end Go.Ar
namespace Go.Ar
open Go Go.Vc Go.Proofs
variable {U u w w':Hp}{F B P Q:Rg}{L:LayH}{H H':Hw}{t n:Nat}{g:Th}
def Yj (H:Hw)(x:Int):Option Int:=(mget H.live x).map λb=>b.2.1
inductive ReaR (H:Hw) (thread addr size:Int):Hw->Int->Int->Prop
 | notReady:Z7 H thread≠0->ReaR H thread addr size H 0 (Z7 H thread)
 | bad:Z7 H thread=0->size<0\/16384<size->ReaR H thread addr size H 0 1
 | none:Z7 H thread=0->addr=0->size=0->ReaR H thread addr size H 0 0
 | first {H':Hw} {a e:Int}:Z7 H thread=0->addr=0->0<size->size<=16384->KR H thread 0 size 8 0 H' a e->ReaR H thread addr size H' a e
 | wild:Z7 H thread=0->addr≠0->0<=size->size<=16384->Yj H addr=Option.none->ReaR H thread addr size H 0 8
 | free {H':Hw} {a e u:Int}:Z7 H thread=0->addr≠0->size=0->Yj H addr=some u->KR H thread 1 0 0 addr H' a e->ReaR H thread addr size H' 0 e
 | same {u:Int}:Z7 H thread=0->addr≠0->0<size->size<=16384->Yj H addr=some u->size<=u/\u<=2*(KI H.tb size 8).1->ReaR H thread addr size H addr 0
 | full {H':Hw} {a e u:Int}:Z7 H thread=0->addr≠0->0<size->size<=16384->Yj H addr=some u->¬(size<=u/\u<=2*(KI H.tb size 8).1)->KR H thread 0 size 8 0 H' a e->e≠0->ReaR H thread addr size H' 0 e
 | moved {H1 H3:Hw} {a u u2 a3 e3:Int}:Z7 H thread=0->addr≠0->0<size->size<=16384->Yj H addr=some u->¬(size<=u/\u<=2*(KI H.tb size 8).1)->KR H thread 0 size 8 0 H1 a 0->Yj H1 a=some u2->0<=u->0<=u2->(0<=a/\a<=500000000000/\0<=addr/\addr<=500000000000/\u<=1000000/\u2<=1000000) →
  KR {H1 with sp:=Ug H1.sp a addr ((min u2 u).toNat/8)} thread 1 0 0 addr H3 a3 e3->ReaR H thread addr size H3 a 0
theorem WbO {tb:List Cls}{size align:Int}{k:Nat}(h:clsV tb size align=some k):k<tb.length:=(zGL.1 h).1
theorem GM {tb:List Cls}(hv:TbOk tb)(size align:Int)(h:size<=16384):0<=(KI tb size align).1/\(KI tb size align).1<=100000:=by
 unfold KI;split
 ·rename_i hok;have hs1:=hok.2;simp only[Ku,zF,zQ]at hs1;split
  ·rename_i k hk;have hlt:=WbO hk;have hc:tb[k]?=some tb[k]:=gGe hlt;have hcd:tb.getD k ⟨8,1,1⟩=tb[k]:=by rw[zL,hc];rfl
   rw[hcd];have hx:(tb.map clsT)[k]?=some (clsT tb[k]):=by simp[hc]
   have:=((Qa _).1 hv).2.2.1 k _ hx;rw[Un]at this;simp only[clsT]at this;omega
  ·unfold WaW;simp only;omega
 ·simp
theorem Qj (h:HH U F L H)(x:Int){R:Int->Int->Hp->Prop}(hR:∀σ',Ext0 U σ'->R ((Yj H x).getD 0) (if(Yj H x).isSome then 0 else 8) σ'):WN.c (some ⟨L.p,0,none⟩) x U R:=by
 refine Wgd h x λσ' e=>?_;have:=hR σ' e;unfold Yj at this;cases hm:mget H.live x with
 | none=>rw[hm]at this;exact this
 | some b=>rw[hm]at this;exact this
theorem UC (hso:UZ)(h:HH U F L H)(hc:CfOk H){thread addr size a e:Int}(hr:ReaR H thread addr size H' a e)(hu:∀b,Yj H addr=some b->0<=b/\b<=1000000000){R:Int->Int->Hp->Prop}
 (hR:∀σ' ts',Ext F U σ'->HH σ' (Grow F U) {L with ts:=ts'} H'->R a e σ'):Yo.c (some ⟨L.p,0,none⟩) thread addr size U R:=by
 refine Yo.o ?_;unfold Yo.v;refine nw (cs:=[.int .i64 thread]) λv hz e0 hb=>?_;have K1:=(HK.start h).box e0 hz;refine Wc7 K1.h hc hb (λhf=>by have:=hf.2;omega) λv1 e1=>?_;have K2:=K1.fr e1;have same:∀{w:Hp} {P B:Rg},HK F U B w P L H->H'=H->R a e w:=λK he=>hR _ L.ts K.e (by rw[he];exact K.fin h);have pass:Z7 H thread=0->∀{J:Bool->Hp->Prop},J (decide (size<0\/16384<size)) v1->(If (Z7 H thread != 0) (R 0 (Z7 H thread) v1) (If (decide (size<0)) (J true v1) (J (decide (size>16384)) v1))):=λh0 J hJ=>by
  refine ifF (by rw[h0];rfl) (ifD (λh1=>?_) λh1=>?_)
  ·rw[zH (by omega:size<0\/16384<size)]at hJ;exact hJ
  ·by_cases h2:size>16384
   ·rw[zH h2];rw[zH (by omega:size<0\/16384<size)]at hJ;exact hJ
   ·rw[zJ h2];rw[zJ (by omega)]at hJ;exact hJ
 cases hr with
 | notReady h0=>exact ifT (by simpa using h0) (same K2 rfl)
 | bad h0 hs=>
  refine ifF (by rw[h0];rfl) (JnB.intro ?_);have:=pass h0 (J:=λr w=>If r (R 0 1 w) True) (by rw[zH hs];exact same K2 rfl);refine ifD (λh1=>ifT rfl (same K2 rfl)) λh1=>ifDT (by omega) (same K2 rfl)
 | none h0 ha hs=>
  subst ha;subst hs;exact ifF (by rw[h0];rfl) (JnB.intro (ifDF (by omega) (ifDF (by omega) (ifT rfl (ifT rfl (same K2 rfl))))))
 | first h0 ha hs1 hs2 hw=>
  subst ha;refine ifF (by rw[h0];rfl) (JnB.intro (ifDF (by omega) (ifDF (by omega) (ifT rfl (ifF (by simp only[zw];omega) ?_)))));refine KV hso K2.h hc.2.2 hw λv3 ts3 e3 h3=>?_;have K3:=K2.to e3 h3 λb _ hb=>hb;exact hR v3 ts3 K3.e (K3.fin h)
 | wild h0 ha hs1 hs2 hn=>
  refine ifF (by rw[h0];rfl) (JnB.intro (ifDF (by omega) (ifDF (by omega) (ifF (by simpa using ha) ?_))));refine Qj K2.h addr λv4 e4=>?_;rw[hn];exact ifT rfl (same (K2.fr e4) rfl)
 | free h0 ha hs hn hw=>
  subst hs;refine ifF (by rw[h0];rfl) (JnB.intro (ifDF (by omega) (ifDF (by omega) (ifF (by simpa using ha) ?_))));refine Qj K2.h addr λv4 e4=>?_;rw[hn];have K4:=K2.fr e4;refine ifF rfl (ifT rfl (Wcm hso K4.h hc.2.2 hw λv5 ts5 e5 h5=>?_));have K5:=K4.to e5 h5 λb _ hb=>hb;exact hR v5 ts5 K5.e (K5.fin h)
 | @same u h0 ha hs1 hs2 hn hg=>
  have hub:=hu _ hn;have hgl:=GM hc.2.2 size 8 hs2;refine ifF (by rw[h0];rfl) (JnB.intro (ifDF (by omega) (ifDF (by omega) (ifF (by simpa using ha) ?_))));refine Qj K2.h addr λv4 e4=>?_;rw[hn];have K4:=K2.fr e4;refine ifF rfl (ifF (by simp only[zw];omega) (WaE K4.h hc size 8 λv6 e6=>?_));have K6:=K4.fr e6;refine QM (λr w=>w=v6/\r=true) (λr w ⟨hw,hr⟩=>by subst hw;exact ifT hr (same K6 rfl)) λJ1 hJ1=>ifDT hg.1 (ar (by omega) (by omega) (hJ1 _ _ ⟨rfl,zH hg.2⟩))
 | @full H' a' e' u h0 ha hs1 hs2 hn hg hw hne=>
  have hub:=hu _ hn;have hgl:=GM hc.2.2 size 8 hs2;refine ifF (by rw[h0];rfl) (JnB.intro (ifDF (by omega) (ifDF (by omega) (ifF (by simpa using ha) ?_))));refine Qj K2.h addr λv4 e4=>?_;rw[hn];have K4:=K2.fr e4;refine ifF rfl (ifF (by simp only[zw];omega) (WaE K4.h hc size 8 λv6 e6=>?_));have K6:=K4.fr e6;refine QM (λr w=>w=v6/\r=false) (λr w ⟨hw',hr⟩=>?_) λJ1 hJ1=>ifD (λh1=>ar (by omega) (by omega) (hJ1 _ _ ⟨rfl,zJ λh2=>hg ⟨h1,h2⟩⟩)) λh1=>hJ1 _ _ ⟨rfl,rfl⟩;subst hw';refine ifF hr (KV hso K6.h hc.2.2 hw λv8 ts8 e8 h8=>?_);have K8:=K6.to e8 h8 λb _ hb=>hb;exact ifT (by simpa using hne) (hR v8 ts8 K8.e (K8.fin h))
 | @moved H1 H3 a' u u2 a3 e3' h0 ha hs1 hs2 hn hg hw hn2 hu0 hu2 hbd hw3=>
  have hub:=hu _ hn;have hgl:=GM hc.2.2 size 8 hs2;refine ifF (by rw[h0];rfl) (JnB.intro (ifDF (by omega) (ifDF (by omega) (ifF (by simpa using ha) ?_))));refine Qj K2.h addr λv4 e4=>?_;rw[hn];have K4:=K2.fr e4;refine ifF rfl (ifF (by simp only[zw];omega) (WaE K4.h hc size 8 λv6 e6=>?_));have K6:=K4.fr e6;refine QM (λr w=>w=v6/\r=false) (λr w ⟨hw',hr⟩=>?_) λJ1 hJ1=>ifD (λh1=>ar (by omega) (by omega) (hJ1 _ _ ⟨rfl,zJ λh2=>hg ⟨h1,h2⟩⟩)) λh1=>hJ1 _ _ ⟨rfl,rfl⟩;subst hw';refine ifF hr (KV hso K6.h hc.2.2 hw λv8 ts8 e8 h8=>?_);have K8:=K6.to e8 h8 λb _ hb=>hb;refine ifF rfl (Qj K8.h a λv9 e9=>?_);have K9:=K8.fr e9;rw[hn2];simp only[zAL];have hmin:(if u2<u then u2 else u)=min u2 u:=by omega
  rw[hmin];refine WfF _ (by omega) (by omega) ?_;have hdiv:(min u2 u)/8=(((min u2 u).toNat/8:Nat):Int):=by omega
  rw[hdiv];refine Wjv K9.h a addr _ (by omega) (by omega) (by omega) (by omega) (by omega) λv11 e11 h11=>?_;have K11:=K9.to e11 h11 λb _ hb=>hb;have hk1:=VP hw;refine Wcm hso K11.h (by show TbOk H1.tb;rw[hk1.1];exact hc.2.2) hw3 λv12 ts12 e12 h12=>?_;have K12:=K11.to e12 h12 λb _ hb=>hb;exact hR v12 ts12 K12.e (K12.fin h)
end Go.Ar
namespace Go.Ar
open Go.Vc (mget mset mdel)
variable {H H':Hw}{held:List Pc}{s0:Sp}{t k j:Nat}{g:Th}{A:AR}{c:Cls}
theorem KG (f:Th->Th)(hj:j≠t):(H.setT t f).ths[j]?=H.ths[j]? := by
 simp[Hw.setT,zCT,Ne.symm hj]
theorem Wkr (x:Int)(hj:j≠t):(putH H t k x).ths[j]?=H.ths[j]? := by
 unfold putH QP;simp only;split<;>split<;>simp only[KG _ hj]
theorem Wix (p:Ph)(hj:j≠t):(Wt H t p).1.ths[j]?=H.ths[j]? := by
 cases p with
 | take k=>simp only[Wt];split<;>simp only[VH,KG _ hj]
 | transfer k w=>
  simp only[Wt];split
  ·split
   ·unfold QP;rw[KG _ hj];rfl
   ·rfl
  ·rfl
 | central k w=>
  simp only[Wt];split
  ·rfl
  ·unfold QP;rw[KG _ hj];rfl
 | grow k w=>simp only[Wt];split<;>rfl
 | fill=>simp only[Wt];split<;>simp only[VH,KG _ hj]
 | large m=>simp only[Wt];split<;>rfl
 | find x=>
  simp only[Wt,UX];split
  ·rfl
  ·split
   ·rfl
   ·unfold QP;rw[KG _ hj]
 | put k x=>exact Wkr x hj
 | back=>
  simp only[Wt];split
  ·rw[WaA,KG _ hj]
  ·rfl
 | give s a=>simp only[Wt];split<;>rfl
 | drain=>simp only[Wt,KG _ hj]
theorem Uo (p:Ph)(hj:j≠t):(QG H t p).ths[j]?=H.ths[j]? := by
 unfold QG setPh;rw[KG _ hj,Wix p hj]
def phAt (H:Hw)(j:Nat):Option Ph:=(H.ths[j]?).bind (·.ph)
def WcO (H H':Hw)(t:Nat):Prop:=phAt H' t=none/\∀j,j≠t->phAt H' j=phAt H j
theorem Wlv (h:HI H held s0)(hg:H.ths[t]?=some g){p:Ph}(hp:g.ph=some p)(hf:¬isF p):∃cl sz,Rq H.tb g p cl sz:=by
 have hth:=(h.th g (h.mem hg)).ph;unfold PhI at hth;rw[hp]at hth;cases p with
 | take k=>obtain⟨c,hc,_⟩:=h.cls hth.2;exact⟨_,_,rfl,c,hc,rfl⟩
 | transfer k w=>obtain⟨c,hc,_⟩:=h.cls hth.2.1;exact⟨_,_,rfl,c,hc,rfl⟩
 | central k w=>obtain⟨c,hc,_⟩:=h.cls hth.2.1;exact⟨_,_,rfl,c,hc,rfl⟩
 | grow k w=>obtain⟨c,hc,_⟩:=h.cls hth.2.1;exact⟨_,_,rfl,c,hc,rfl⟩
 | fill=>
  obtain⟨k,x,xs,hh,hk,_⟩:=hth;obtain⟨c,hc,_⟩:=h.cls hk;exact⟨_,_,k,_,[],c,hh,rfl,hc,rfl⟩
 | large m=>exact⟨_,_,rfl,rfl⟩
 | find x=>exact(hf trivial).elim
 | put k x=>exact(hf trivial).elim
 | back=>exact(hf trivial).elim
 | give s a=>exact(hf trivial).elim
 | drain=>exact(hf trivial).elim
theorem st_M (h:HI H held s0)(hg:H.ths[t]?=some g){p:Ph}(hp:g.ph=some p){cl sz:Int}(hr:Rq H.tb g p cl sz):StI H t p/\EfM H t p cl sz:=by
 cases p with
 | take k=>exact WmN h hg hp hr
 | transfer k w=>exact WdJ h hg hp hr
 | central k w=>exact Wgq h hg hp hr
 | grow k w=>exact Wmc h hg hp hr
 | fill=>exact WlV h hg hp hr
 | large m=>exact WjA h hg hp hr
 | find x=>exact hr.elim
 | put k x=>exact hr.elim
 | back=>exact hr.elim
 | give s a=>exact hr.elim
 | drain=>exact hr.elim
theorem st_F (h:HI H held s0)(hg:H.ths[t]?=some g){p:Ph}(hp:g.ph=some p)(hf:isF p):StI H t p/\EfF H t g p:=by
 cases p with
 | take k=>exact hf.elim
 | transfer k w=>exact hf.elim
 | central k w=>exact hf.elim
 | grow k w=>exact hf.elim
 | fill=>exact hf.elim
 | large m=>exact hf.elim
 | find x=>exact WmR h hg hp
 | put k x=>exact Wn4 h hg hp
 | back=>exact Wmj h hg hp
 | give s a=>exact Wm6 h hg hp
 | drain=>exact Wke h hg hp
open Classical in
theorem HI.stp (h:HI H held s0)(hg:H.ths[t]?=some g){p:Ph}(hp:g.ph=some p):StI H t p:=by
 by_cases hf:isF p
 ·exact(st_F h hg hp hf).1
 ·obtain⟨cl,sz,hr⟩:=Wlv h hg hp hf;exact(st_M h hg hp hr).1
theorem Hm {p:Ph}(ht:t<H.ths.length):∃g',(QG H t p).ths[t]?=some g'/\g'.ph=(Wt H t p).2.1:=We8 ht
theorem Wn1 {cl sz:Int}:∀(n:Nat) {H:Hw} {held:List Pc} {s0:Sp} {g:Th} {p:Ph},HI H held s0->H.ths[t]?=some g->g.ph=some p->Rq H.tb g p cl sz->Wan H t p<=n →
 ∃m H' a e,RunN m H t p H' a e/\(∃held s0,HI H' held s0)/\KS H.sp H'.sp/\WcO H H' t/\((e≠0/\a=0/\H'.live=H.live)\/(e=0/\mget H.live a=none/\H'.live=mset H.live a (a,sz,cl,XZ H'.ars a)))
 | n,H,held,s0,g,p,h,hg,hp,hr,hn=>by
  have ht:=(gSi.1 hg).1;obtain⟨s,ef⟩:=st_M h hg hp hr;have hps:(Wt H t p).2.1=none->WcO H (QG H t p) t:=λhx=>by
   obtain⟨g',hg',hp'⟩:=Hm (p:=p) ht;exact⟨by unfold phAt;rw[hg'];exact hp'.trans hx,λj hj=>by unfold phAt;rw[Uo p hj]⟩
  rcases ef with⟨p',g',e1,e2,e3,e4,e5⟩|⟨e1,e2,e3,e4⟩|⟨e1,e2,e3,e4⟩
  ·obtain⟨held',s0',h'⟩:=s.hi;obtain⟨g2,hg2,hp2⟩:=Hm (p:=p) ht;rw[e3]at hg2;cases hg2;have htb:(QG H t p).tb=H.tb:=(Uz H t p).1;have hn':Wan (QG H t p) t p'<n:=by omega
   obtain⟨m,H',a,e,r,hi,ks,ps,res⟩:=Wn1 (Wan (QG H t p) t p') h' e3 (hp2.trans e1) (by rw[htb];exact e4) (zC _);refine⟨m+1,H',a,e,.next s.ok e1 r,hi,s.ks.trans ks,⟨ps.1,λj hj=>(ps.2 j hj).trans (by unfold phAt;rw[Uo p hj])⟩,?_⟩;rw[e2]at res;exact res
  ·exact⟨1,_,_,_,.done s.ok e1,s.hi,s.ks,hps e1,.inl ⟨e2,e3,e4⟩⟩
  ·exact⟨1,_,_,_,.done s.ok e1,s.hi,s.ks,hps e1,.inr ⟨e2,e3,e4⟩⟩
termination_by n=>n
theorem Wng:∀(n:Nat) {H:Hw} {held:List Pc} {s0:Sp} {g:Th} {p:Ph},HI H held s0->H.ths[t]?=some g->g.ph=some p->isF p->Wa5 g p<=n →
 ∃m H' e,RunN m H t p H' 0 e/\(∃held s0,HI H' held s0)/\KS H.sp H'.sp/\WcO H H' t/\((∀x,p≠.find x)->e=0/\H'.live=H.live) ∧
  (∀x,p=.find x->(mget H.live x=none->e≠0/\H'.live=H.live)/\(∀b,mget H.live x=some b->e=0/\H'.live=mdel H.live x))
 | n,H,held,s0,g,p,h,hg,hp,hf,hn=>by
  have ht:=(gSi.1 hg).1;obtain⟨s,e0,ef,el,efi⟩:=st_F h hg hp hf;rcases ef with⟨p',g',e1,e2,e3,e4,e5⟩|e1
  ·obtain⟨held',s0',h'⟩:=s.hi;obtain⟨g2,hg2,hp2⟩:=Hm (p:=p) ht;rw[e4]at hg2;cases hg2;have hn':Wa5 g' p'<n:=by omega
   obtain⟨m,H',e,r,hi,ks,ps,res,_⟩:=Wng (Wa5 g' p') h' e4 (hp2.trans e1) e2 (zC _);obtain⟨r1,r2⟩:=res e3;refine⟨m+1,H',e,.next s.ok e1 r,hi,s.ks.trans ks,⟨ps.1,λj hj=>(ps.2 j hj).trans (by unfold phAt;rw[Uo p hj])⟩,λhx=>⟨r1,r2.trans (el hx).2⟩,λx hx=>⟨λhm=>?_,λb hb=>⟨r1,r2.trans ((efi x hx).2 b hb).2⟩⟩⟩;have:=((efi x hx).1 hm).1;rw[e1]at this;cases this
  ·have hps:WcO H (QG H t p) t:=by
    obtain⟨g',hg',hp'⟩:=Hm (p:=p) ht;exact⟨by unfold phAt;rw[hg'];exact hp'.trans e1,λj hj=>by unfold phAt;rw[Uo p hj]⟩
   have r:=RunN.done (H:=H) (t:=t) s.ok e1;rw[e0]at r;exact⟨1,_,_,r,s.hi,s.ks,hps,el,λx hx=>⟨λhm=>((efi x hx).1 hm).2,(efi x hx).2⟩⟩
termination_by n=>n
structure OpOk (H H':Hw):Prop where
 hi:∃held s0,HI H' held s0
 ks:KS H.sp H'.sp
 kp:Z1 H' H
 ph:∀j,phAt H' j=phAt H j
theorem OpOk.refl (h:HI H held s0):OpOk H H:=⟨⟨held,s0,h⟩,KS.refl _,Z1.refl _,λ_=>rfl⟩
theorem OpOk.trans {H1 H2 H3:Hw}(a:OpOk H1 H2)(b:OpOk H2 H3):OpOk H1 H3:=⟨b.hi,a.ks.trans b.ks,a.kp.trans b.kp,λj=>(b.ph j).trans (a.ph j)⟩
theorem GR {tb:List Cls}{kind size align addr:Int}{p:Ph}(h:reqH tb kind size align addr=some p)(hx:I63 addr)(hh:g.hands=[]):PhI tb.length {g with ph:=some p}:=by
 unfold reqH at h;split at h
 ·split at h
  ·split at h
   ·split at h
    ·rename_i k hk;cases h;exact⟨hh,WbO hk⟩
    ·cases h;exact⟨hh,by omega,by omega⟩
   ·cases h
  ·cases h
 ·split at h
  ·cases h;exact⟨hh,hx⟩
  ·split at h
   ·cases h;exact hh
   ·cases h
theorem HI.setPh (h:HI H held s0)(hg:H.ths[t]?=some g)(hn:g.ph=none){p:Ph}(hp:PhI H.tb.length {g with ph:=some p})(hq:∀s a,p≠.give s a):HI (setPh H t (some p)) held s0:=by
 have hth:=h.th g (h.mem hg);have e:Go.Ar.setPh H t (some p) = {H with ths:=H.ths.set t {g with ph:=some p}}:=Zx hg _;rw[e];refine h.updT hg (live':=H.live) (λk' x=>?_) h.lk (λe' he=>.inl he) (λs a hp=>by cases hp;exact(hq s a rfl).elim) ⟨hth.ll,hth.lo,hth.hb,hth.hl,hp⟩;unfold cnT;rw[hn];have:cnP (some p) k' x=0:=by
  cases p<;>first|rfl|exact(hq _ _ rfl).elim
 simp only[this];simp only[cnP]
theorem Uy (h:HI H held s0)(hg:H.ths[t]?=some g)(hn:g.ph=none):g.hands=[]:=by
 have:=(h.th g (h.mem hg)).ph;unfold PhI at this;rw[hn]at this;exact this
theorem VB (H:Hw)(thread kind size align addr:Int):(∃e,Kc H thread kind size align addr=.inl e/\e≠0)\/∃(t:Nat) (p:Ph) (g:Th),thread=(t:Int)/\H.ths[t]?=some g/\g.ph=none/\reqH H.tb kind size align addr=some p/\Kc H thread kind size align addr=.inr (t,p):=by
 unfold Kc;split
 ·split
  ·split
   ·split
    ·rename_i hth _ g hg hn _ p hp;exact .inr ⟨thread.toNat,p,g,by omega,hg,hn,hp,rfl⟩
    ·exact .inl ⟨1,rfl,by decide⟩
   ·exact .inl ⟨5,rfl,by decide⟩
  ·exact .inl ⟨1,rfl,by decide⟩
 ·exact .inl ⟨1,rfl,by decide⟩
theorem WbD (hg:H.ths[t]?=some g)(p:Option Ph)(hj:j≠t):phAt (setPh H t p) j=phAt H j:=by
 unfold phAt setPh;rw[KG _ hj]
theorem Wnq (hg:H.ths[t]?=some g)(hn:g.ph=none){p:Ph}(ps:WcO (setPh H t (some p)) H' t):∀j,phAt H' j=phAt H j:=λj=>by
 by_cases hj:j=t
 ·subst hj;rw[ps.1];unfold phAt;rw[hg];exact hn.symm
 ·rw[ps.2 j hj,WbD hg _ hj]
def MalE (H:Hw)(size align:Int)(H':Hw)(a e:Int):Prop:=(e≠0/\a=0/\H'.live=H.live) ∨
 (e=0/\mget H.live a=none/\(1<=size/\size<=16384/\Ku size align=true)/\∃cl,H'.live=mset H.live a (a,(KI H.tb size align).1,cl,XZ H'.ars a)/\((∃k:Nat,cl=k/\clsV H.tb size align=some k)\/cl = -1/\clsV H.tb size align=none))
theorem Wdj (h:HI H held s0)(thread size align:Int):∃H' a e,KR H thread 0 size align 0 H' a e/\OpOk H H'/\MalE H size align H' a e:=by
 rcases VB H thread 0 size align 0 with⟨e,hs,hne⟩|⟨t,p,g,rfl,hg,hn,hq,hs⟩
 ·exact⟨H,0,e,.inl ⟨hs,hne,rfl,rfl⟩,OpOk.refl h,.inl ⟨hne,rfl,rfl⟩⟩
 ·have hh:=Uy h hg hn;have hpi:=GR (g:=g) hq (by unfold I63;decide) hh;unfold reqH at hq;rw[zA rfl]at hq;split at hq
  ·rename_i hsz;split at hq
   ·rename_i hok;have hgood:KI H.tb size align=(match clsV H.tb size align with
     | some k=>((H.tb.getD k ⟨8,1,1⟩).size:Int)
     | none=>WaW size,0):=by
     unfold KI;rw[zA ⟨hsz.2,hok⟩]
     first|done | (cases clsV H.tb size align<;>rfl)
    obtain⟨cl,hpe,hcl⟩:∃cl,Rq H.tb {g with ph:=some p} p cl (KI H.tb size align).1/\((∃k:Nat,cl=k/\clsV H.tb size align=some k)\/cl = -1/\clsV H.tb size align=none):=by
     cases hcv:clsV H.tb size align with
     | some k=>
      rw[hcv]at hq hgood;cases hq;have hkl:=WbO hcv;have hc:H.tb[k]?=some H.tb[k]:=gGe hkl;refine⟨k,⟨rfl,H.tb[k],hc,?_⟩,.inl ⟨k,rfl,rfl⟩⟩;rw[hgood];simp only;rw[zL,hc];rfl
     | none=>
      rw[hcv]at hq hgood;cases hq;refine⟨-1,⟨rfl,?_⟩,.inr ⟨rfl,rfl⟩⟩;rw[hgood];simp only;unfold WaW;omega
    have hnp:∀s a,p≠.give s a:=λs a e=>by subst e;exact hpe.elim
    have h1:=h.setPh hg hn hpi hnp;have hg1:(Go.Ar.setPh H t (some p)).ths[t]?=some {g with ph:=some p}:=by
     have ht:=(gSi.1 hg).1;have e:Go.Ar.setPh H t (some p) = {H with ths:=H.ths.set t {g with ph:=some p}}:=Zx hg _;rw[e];simp[ht]
    obtain⟨m,H',a,e,r,hi,ks,ps,res⟩:=Wn1 _ h1 hg1 rfl hpe (zC _);refine⟨H',a,e,.inr ⟨t,p,m,hs,r⟩,⟨hi,ks,(Q5 _ _ _).trans (WbM r),Wnq hg hn ps⟩,?_⟩;rcases res with⟨r1,r2,r3⟩|⟨r1,r2,r3⟩
    ·exact .inl ⟨r1,r2,r3⟩
    ·exact .inr ⟨r1,r2,⟨hsz.1,hsz.2,hok⟩,cl,r3,hcl⟩
   ·cases hq
  ·cases hq
def FreE (H:Hw)(thread addr:Int)(H':Hw)(e:Int):Prop:=
 (e≠0/\H'=H/\Kc H thread 1 0 0 addr=.inl e)\/((∃p,Kc H thread 1 0 0 addr=.inr p)/\mget H.live addr=none/\e≠0/\H'.live=H.live)\/((∃p,Kc H thread 1 0 0 addr=.inr p)/\∃b,mget H.live addr=some b/\e=0/\H'.live=mdel H.live addr)
theorem Wlc (h:HI H held s0)(hg:H.ths[t]?=some g)(hn:g.ph=none){p:Ph}(hp:PhI H.tb.length {g with ph:=some p})(hf:isF p)(hq:∀s a,p≠.give s a):∃m H' e,RunN m (setPh H t (some p)) t p H' 0 e/\OpOk H H'/\((∀x,p≠.find x)->e=0/\H'.live=H.live) ∧
 (∀x,p=.find x->(mget H.live x=none->e≠0/\H'.live=H.live)/\(∀b,mget H.live x=some b->e=0/\H'.live=mdel H.live x)):=by
 have h1:=h.setPh hg hn hp hq;have hg1:(Go.Ar.setPh H t (some p)).ths[t]?=some {g with ph:=some p}:=by
  have ht:=(gSi.1 hg).1;have e:Go.Ar.setPh H t (some p) = {H with ths:=H.ths.set t {g with ph:=some p}}:=Zx hg _;rw[e];simp[ht]
 obtain⟨m,H',e,r,hi,ks,ps,r1,r2⟩:=Wng _ h1 hg1 rfl hf (zC _);exact⟨m,H',e,r,⟨hi,ks,(Q5 _ _ _).trans (WbM r),Wnq hg hn ps⟩,r1,r2⟩
theorem HY (h:HI H held s0)(thread addr:Int)(hx:I63 addr):∃H' e,KR H thread 1 0 0 addr H' 0 e/\OpOk H H'/\FreE H thread addr H' e:=by
 rcases VB H thread 1 0 0 addr with⟨e,hs,hne⟩|⟨t,p,g,rfl,hg,hn,hq,hs⟩
 ·exact⟨H,e,.inl ⟨hs,hne,rfl,rfl⟩,OpOk.refl h,.inl ⟨hne,rfl,hs⟩⟩
 ·have hpi:=GR (g:=g) hq hx (Uy h hg hn);have hp:p=.find addr:=by unfold reqH at hq;simp at hq;exact hq.symm
  subst hp;obtain⟨m,H',e,r,op,_,r2⟩:=Wlc h hg hn hpi trivial (λs a e=>by cases e);refine⟨H',e,.inr ⟨t,_,m,hs,r⟩,op,?_⟩;cases hm:mget H.live addr with
  | none=>exact .inr (.inl ⟨⟨_,hs⟩,hm,(r2 addr rfl).1 hm⟩)
  | some b=>exact .inr (.inr ⟨⟨_,hs⟩,b,hm,(r2 addr rfl).2 b hm⟩)
theorem Wd6 (h:HI H held s0)(thread:Int):∃H' e,KR H thread 2 0 0 0 H' 0 e/\OpOk H H'/\H'.live=H.live:=by
 rcases VB H thread 2 0 0 0 with⟨e,hs,hne⟩|⟨t,p,g,rfl,hg,hn,hq,hs⟩
 ·exact⟨H,e,.inl ⟨hs,hne,rfl,rfl⟩,OpOk.refl h,rfl⟩
 ·have hpi:=GR (g:=g) hq (by unfold I63;decide) (Uy h hg hn);have hp:p=.drain:=by unfold reqH at hq;simp at hq;exact hq.symm
  subst hp;obtain⟨m,H',e,r,op,r1,_⟩:=Wlc h hg hn hpi trivial (λs a e=>by cases e);exact⟨H',e,.inr ⟨t,_,m,hs,r⟩,op,(r1 λx e=>by cases e).2⟩
end Go.Ar
namespace Go.Ar
open Go Go.Vc Go.Proofs
variable {U u w w':Hp}{F B P Q:Rg}{L:LayH}{H H':Hw}{t n k:Nat}{A:AR}{Y:Lay}
theorem Fr.refl (A:AR):Fr A A:=⟨rfl,rfl,rfl⟩
theorem Fr.trans {A B C:AR}(h:Fr B A)(k:Fr C B):Fr C A:=⟨k.1.trans h.1,k.2.1.trans h.2.1,k.2.2.trans h.2.2⟩
theorem WdE {α:Type}(f:AR×Sp->α->AR×Sp)(hf:∀p x,Fr (f p x).1 p.1):∀(l:List α) (p:AR×Sp),Fr (l.foldl f p).1 p.1
 | [],p=>Fr.refl _
 | x::l,p=>(hf p x).trans (WdE f hf l (f p x))
theorem WgP (A:AR)(sp:Sp):Fr (trimS A sp).1 A:=WdE KY (λp x=>⟨rfl,rfl,rfl⟩) _ _
theorem Wjb (A:AR):Fr (YC A) A:=⟨(Vx _ A).1,(Vx _ A).2.1,(Vx _ A).2.2.1⟩
theorem Wln (A:AR)(sp:Sp)(want:Int):Fr (relS A sp want).1 A:=by
 unfold relS;split
 ·exact Fr.refl A
 ·exact(Wjb A).trans (WdE rel1 (λp x=>⟨rfl,rfl,rfl⟩) _ _)
theorem WhI (h:HH U F L H)(hk:H.ars[k]?=some A)(hy:L.ys[k]?=some Y){R:Int->Hp->Prop}
 (hR:∀σ',Ext F U σ'->HH σ' (Grow F U) L {H.setA k (trimS A H.sp).1 with sp:=(trimS A H.sp).2}->R ((WfU A:Nat):Int) σ'):X8.c (some ⟨Y.p,0,none⟩) U R:=by
 obtain⟨Y',G,D,hy',_,hW,hput⟩:=h.stepAS hk;rw[hy]at hy';cases hy';refine Wkd hW λσ' e h'=>?_;have htr:traT (trimS A H.sp).1 Y=traT A Y:=(WgP A H.sp).traT Y;obtain⟨e1,h1⟩:=hput σ' _ _ (Cut G U) (Cut D U) (WgP A H.sp).1 e ⟨λb hb=>.inl hb.1,λb hb=>hb.1⟩ (by rw[htr];exact h');exact hR σ' e1 h1
theorem WcH (h:HH U F L H)(hk:H.ars[k]?=some A)(hy:L.ys[k]?=some Y)(want:Int)(h12:(Vv (YC A).st).length<=12){R:Int->Int->Hp->Prop}
 (hR:∀σ',Ext F U σ'->HH σ' (Grow F U) L {H.setA k (relS A H.sp want).1 with sp:=(relS A H.sp want).2}->R ((relV A want:Nat):Int) (relE want) σ'):Xk.c (some ⟨Y.p,0,none⟩) want U R:=by
 obtain⟨Y',G,D,hy',_,hW,hput⟩:=h.stepAS hk;rw[hy]at hy';cases hy';refine Wen hW want h12 λσ' G' D' hf e h'=>?_;have htr:traT (relS A H.sp want).1 Y=traT A Y:=(Wln A H.sp want).traT Y;obtain⟨e1,h1⟩:=hput σ' _ _ G' D' (Wln A H.sp want).1 e hf (by rw[htr];exact h');exact hR σ' e1 h1
def QE (H:Hw)(n:Nat):Hw×Nat:=(List.range n).foldl (λ(p:Hw×Nat) k=>match p.1.ars[k]? with
 | some A=>({p.1.setA k (trimS A p.1.sp).1 with sp:=(trimS A p.1.sp).2},p.2+WfU A)
 | none=>p) (H,0)
theorem U3 (n:Nat):QE H (n+1)=(match (QE H n).1.ars[n]? with
 | some A=>({(QE H n).1.setA n (trimS A (QE H n).1.sp).1 with sp:=(trimS A (QE H n).1.sp).2},(QE H n).2+WfU A)
 | none=>QE H n):=by
 unfold QE;rw[zt,zAE];rfl
theorem Weh (H:Hw)(n:Nat):Z1 (QE H n).1 H:=by
 induction n with
 | zero=>exact Z1.refl H
 | succ n ih=>
  rw[U3];split
  ·exact ih.trans (Qf _ _ _ _)
  ·exact ih
theorem WjT (h:HH U F L H)(hb:∀n,n<=H.ars.length->(QE H n).2<=1000000){R:Int->Hp->Prop}(hR:∀σ',Ext F U σ'->HH σ' (Grow F U) L (QE H H.ars.length).1->R (((QE H H.ars.length).2:Nat):Int) σ'):Zo.c (some ⟨L.p,0,none⟩) U R:=by
 refine Zo.o ?_;unfold Zo.v;refine Q6 h (ifF rfl (nilP (h.hd.rS rfl ?_)));have hal:=h.arowL;have ha2:=h.s.a2;refine Vm (a:=.i .i64) (bb:=.i .i64) (λ(x z:Int) w=>∃(j:Nat) (B P:Rg),z=(j:Int)/\x=((QE H j).2:Int)/\j<=H.ars.length/\HK F U B w P L (QE H j).1) (λ_ z _=>H.ars.length-z.toNat) ⟨0,_,_,rfl,rfl,by omega,HK.start h⟩ ?_;rintro(x:Int) (z:Int) w ⟨j,B,P,rfl,rfl,hj,K⟩;refine ifD (λhlt=>?_) λhge=>?_
 ·simp only at hlt;have hj':j<H.ars.length:=by omega
  obtain⟨A,hA⟩:∃A,(QE H j).1.ars[j]?=some A:=⟨_,gGe (by rw[(Weh H j).2.2.2];exact hj')⟩;obtain⟨Y,hY,_,_⟩:=K.h.ar hA;have hsn:=U3 (H:=H) j;rw[hA]at hsn;simp only at hsn;have hb1:=hb (j+1) (by omega);refine K.h.rA hY (WhI K.h hA hY λw1 e1 h1=>?_);have K1:=K.to e1 h1 λb _ hb=>hb;have h2:(QE H (j+1)).2=(QE H j).2+WfU A:=by rw[hsn]
  have h3:(QE H (j+1)).1 = {(QE H j).1.setA j (trimS A (QE H j).1.sp).1 with sp:=(trimS A (QE H j).1.sp).2}:=by rw[hsn]
  rw[←h3]at K1;exact arN (m:=(QE H (j+1)).2) (by omega) (by omega) (arN (m:=j+1) (by omega) (by omega) ⟨⟨j+1,_,_,rfl,rfl,by omega,K1⟩,by omega⟩)
 ·have hji:j=H.ars.length:=by simp only at hge;omega
  subst hji;exact hR w K.e (K.fin h)
def Uu (H:Hw)(n:Nat):Hw:=(List.range n).foldl (λ(H:Hw) k=>match H.ars[k]? with
 | some A=>H.setA k (UV A)
 | none=>H) H
theorem U0 (n:Nat):Uu H (n+1)=(match (Uu H n).ars[n]? with
 | some A=>(Uu H n).setA n (UV A)
 | none=>Uu H n):=by
 unfold Uu;rw[zt,zAE];rfl
theorem Weg (H:Hw)(n:Nat):Z1 (Uu H n) H:=by
 induction n with
 | zero=>exact Z1.refl H
 | succ n ih=>
  rw[U0];split
  ·exact ih.trans (Qf _ _ _ _)
  ·exact ih
theorem WjQ (h:HH U F L H)(hI:∀n A,n<H.ars.length->(Uu H n).ars[n]?=some A->TraI A){R:Hp->Prop}(hR:∀σ',Ext F U σ'->HH σ' (Grow F U) L (Uu H H.ars.length)->R σ'):Zq.c (some ⟨L.p,0,none⟩) U R:=by
 refine Zq.o ?_;unfold Zq.v;refine Q6 h (ifF rfl (nilP (h.hd.rS rfl ?_)));have hal:=h.arowL;have ha2:=h.s.a2;refine ZD (a:=.i .i64) (λ(z:Int) w=>∃(j:Nat) (B P:Rg),z=(j:Int)/\j<=H.ars.length/\HK F U B w P L (Uu H j)) (λz _=>H.ars.length-z.toNat) ⟨0,_,_,rfl,by omega,HK.start h⟩ ?_;rintro(z:Int) w ⟨j,B,P,rfl,hj,K⟩;refine ifD (λhlt=>?_) λhge=>?_
 ·simp only at hlt;have hj':j<H.ars.length:=by omega
  obtain⟨A,hA⟩:∃A,(Uu H j).ars[j]?=some A:=⟨_,gGe (by rw[(Weg H j).2.2.2];exact hj')⟩;obtain⟨Y,hY,_,_⟩:=K.h.ar hA;have hsn:=U0 (H:=H) j;rw[hA]at hsn;simp only at hsn;refine K.h.rA hY ?_;obtain⟨G,hG,ha,hput⟩:=K.h.stepA0 hA hY;have hIA:=hI j A hj' hA;refine Wkw ha hIA λw1 e1 h1=>?_;obtain⟨e2,h2⟩:=hput w1 (UV A) (WaY _ A hIA).1 e1 h1;have K1:=K.to e2 h2 λb _ hb=>hb;rw[←hsn]at K1;exact arN (m:=j+1) (by omega) (by omega) ⟨⟨j+1,_,_,rfl,by omega,K1⟩,by omega⟩
 ·have hji:j=H.ars.length:=by simp only at hge;omega
  subst hji;exact hR w K.e (K.fin h)
def QB (H:Hw)(want:Int)(n:Nat):Hw×Nat:=(List.range n).foldl (λ(p:Hw×Nat) k=>if want<=(p.2:Int)then p else match p.1.ars[k]? with
 | some A=>({p.1.setA k (relS A p.1.sp (want-p.2)).1 with sp:=(relS A p.1.sp (want-p.2)).2},p.2+relV A (want-p.2))
 | none=>p) (H,0)
theorem UK (want:Int)(n:Nat):QB H want (n+1)=(if want<=((QB H want n).2:Int)then QB H want n else match (QB H want n).1.ars[n]? with
 | some A=>({(QB H want n).1.setA n (relS A (QB H want n).1.sp (want-(QB H want n).2)).1 with sp:=(relS A (QB H want n).1.sp (want-(QB H want n).2)).2},(QB H want n).2+relV A (want-(QB H want n).2))
 | none=>QB H want n):=by
 unfold QB;rw[zt,zAE];rfl
theorem Wbx {want:Int}{j:Nat}(h:want<=((QB H want j).2:Int)):∀n,j<=n->QB H want n=QB H want j
 | 0,hn=>by rw[show j=0 by omega]
 | n+1,hn=>by
  by_cases e:j=n+1
  ·rw[e]
  ·have ih:=Wbx h n (by omega);rw[UK,ih,zA h]
theorem Wgu (H:Hw)(want:Int)(n:Nat):Z1 (QB H want n).1 H:=by
 induction n with
 | zero=>exact Z1.refl H
 | succ n ih=>
  rw[UK];split
  ·exact ih
  ·split
   ·exact ih.trans (Qf _ _ _ _)
   ·exact ih
theorem WeC (h:HH U F L H)(want:Int)(hw9:want<=9223372036854775807)(h12:∀n A,n<H.ars.length->(QB H want n).1.ars[n]?=some A->(Vv (YC A).st).length<=12)(hb:∀n,n<=H.ars.length->(QB H want n).2<=1000000){R:Int->Int->Hp->Prop}
 (h1:want<0->R 0 1 U) (hR:0<=want->∀σ',Ext F U σ'->HH σ' (Grow F U) L (QB H want H.ars.length).1->R (((QB H want H.ars.length).2:Nat):Int) 0 σ'):Yn.c (some ⟨L.p,0,none⟩) want U R:=by
 refine Yn.o ?_;unfold Yn.v;refine Q6 h (ifF rfl (ifD (λhn=>h1 hn) λhn=>nilP (h.hd.rS rfl ?_)));have hR:=hR (by omega);have hal:=h.arowL;have ha2:=h.s.a2;refine Vm (a:=.i .i64) (bb:=.i .i64) (λ(x z:Int) w=>∃(j:Nat) (B P:Rg),z=(j:Int)/\x=((QB H want j).2:Int)/\j<=H.ars.length/\HK F U B w P L (QB H want j).1) (λ_ z _=>H.ars.length-z.toNat) ⟨0,_,_,rfl,rfl,by omega,HK.start h⟩ ?_;rintro(x:Int) (z:Int) w ⟨j,B,P,rfl,rfl,hj,K⟩;refine ifD (λhlt=>?_) λhge=>?_
 ·simp only at hlt;have hj':j<H.ars.length:=by omega
  obtain⟨A,hA⟩:∃A,(QB H want j).1.ars[j]?=some A:=⟨_,gGe (by rw[(Wgu H want j).2.2.2];exact hj')⟩;obtain⟨Y,hY,_,_⟩:=K.h.ar hA;have hb0:=hb j hj;have hb1:=hb (j+1) (by omega);refine K.h.rA hY (ifD (λhen=>?_) λhen=>?_)
  ·rw[Wbx (by omega) H.ars.length hj]at hR;exact hR w K.e (K.fin h)
  ·have hsn:=UK (H:=H) want j;rw[zB (by omega),hA]at hsn;simp only at hsn;refine ar (by omega) (by omega) (WcH K.h hA hY _ (h12 j A hj' hA) λw1 e1 h1=>?_);have K1:=K.to e1 h1 λb _ hb=>hb;have h2:(QB H want (j+1)).2=(QB H want j).2+relV A (want-(QB H want j).2):=by rw[hsn]
   have h3:(QB H want (j+1)).1 = {(QB H want j).1.setA j (relS A (QB H want j).1.sp (want-(QB H want j).2)).1 with sp:=(relS A (QB H want j).1.sp (want-(QB H want j).2)).2}:=by rw[hsn]
   rw[←h3]at K1;exact arN (m:=(QB H want (j+1)).2) (by omega) (by omega) (arN (m:=j+1) (by omega) (by omega) ⟨⟨j+1,_,_,rfl,rfl,by omega,K1⟩,by omega⟩)
 ·have hji:j=H.ars.length:=by simp only at hge;omega
  subst hji;exact hR w K.e (K.fin h)
end Go.Ar
namespace Go.Ar
variable {A:AR}
theorem WfO (h:GA A)(hn:A.n<=208)(hlow:∀p,p<16->A.f p=0):(Vv (YC A).st).length<=12:=by
 obtain⟨o,_,_⟩:=Ux h;have hl:(YC A).st.length=A.n:=by rw[o.ga.pg.len,o.kp.n]
 have h0:∀p,p<16->(YC A).f p=0:=λp hp=>(o.kp.z p).2 (hlow p hp);have hn1:=h.pg.n1;unfold Vv;rw[hl];have e:List.range (A.n/16)=0::(List.range (A.n/16-1)).map Nat.succ:=by
  rw[←zGF];congr 1;omega
 rw[e,zCH];have hz:cntR (YC A).st (16*0) (16*0+16) 2=0:=(Hy (by omega) (by rw[hl];omega)).2 λp p1 p2 e2=>by
  have:=h0 p (by omega);unfold AR.f at this;omega
 rw[hz];have:¬(decide (0<0)=true):=by simp
 rw[zB this];refine zN (zBB _ _) ?_;rw[zi,zCF];omega
def newW (tb:List Cls)(n room m:Nat):Wd:=⟨tb,Vn n,List.replicate m (newA n room tb),[]⟩
theorem Wmp {n room:Nat}{tb:List Cls}(h1:32<=n)(h2:n<=1024)(h3:n%16=0)(h6:tb.length<=40)(h7:∀c∈tb,c.ok):GA (newA n room tb)/\∀p,(newA n room tb).f p=0:=by
 have hf:∀p,(newA n room tb).f p=0:=λp=>by
  show(List.replicate n 0).getD p 0=0;rw[zL,zAQ];split<;>rfl
 have hcen:∀{k:Nat} {ss:List SpA},(List.replicate tb.length ([]:List SpA))[k]?=some ss->ss=[]:=λh=>by
  rw[zAQ]at h;split at h<;>simp at h;exact h
 have htra:∀{k:Nat} {t:TrA},(List.replicate tb.length (⟨0,[]⟩:TrA))[k]?=some t->t.bs=[]:=λh=>by
  rw[zAQ]at h;split at h<;>simp at h;rw[←h]
 refine⟨⟨⟨by simp[newA],h1,h2,h3,λp=>by rw[hf];omega,λp=>by rw[hf];simp[newA],λp=>by rw[hf];simp[newA,Go.Bu.emptyS],λp=>by rw[hf,hf]⟩,h6,by simp[newA],by simp[newA],λk c ss hc=>?_,λk c ss hc s hs=>?_,λk c ss hc p=>?_,λp=>?_,λp=>.inr (Nat.zero_le _),by simp[newA],by simp[newA],λk t ht=>?_,λk c ss t hc ht=>?_,λk c t hc ht=>?_⟩,hf⟩
 ·have e:=hcen hc.2;subst e;exact⟨h7 c (zE hc.1),by simp,by simp⟩
 ·have e:=hcen hc.2;subst e;simp at hs
 ·have e:=hcen hc.2;subst e;constructor
  ·intro h;cases h
  ·rintro⟨s,hs,_⟩;simp at hs
 ·constructor
  ·intro h;cases h
  ·rintro⟨r,hr,_⟩;simp[newA]at hr
 ·have:=htra ht;rw[this];exact zDD
 ·have:=htra ht;rw[this];simp
 ·have:=htra ht;rw[this];simp
theorem Wlx {tb:List Cls}{n room m:Nat}(h1:32<=n)(h2:n<=1024)(h3:n%16=0)(h6:tb.length<=40)(h7:∀c∈tb,c.ok):WI (newW tb n room m):=by
 obtain⟨ga,hf⟩:=Wmp (room:=room) h1 h2 h3 h6 h7;have get:∀{k:Nat} {A:AR},(newW tb n room m).ars[k]?=some A->A=newA n room tb:=λ{k A} h=>by
  have h:(List.replicate m (newA n room tb))[k]?=some A:=h;rw[zAQ]at h;split at h<;>simp at h;exact h.symm
 have hsp:∀p,gf (Vn n).st p=0:=λp=>by
  show(List.replicate n 0).getD p 0=0;rw[zL,zAQ];split<;>rfl
 refine⟨λk A h=>by rw[get h];exact ga,λk A h=>?_,λk A h=>by rw[get h];rfl,λk A h p hp=>by rw[get h];exact hf p,λp hp=>(hp (hsp p)).elim,λp k l A B hA hB h1 h2=>?_,zDD,λp hp=>by simp[newW]at hp,λk A h j y hy=>?_,λk A h r hr=>?_⟩
 ·rw[get h];exact⟨by simp[newW,Vn,newA],λp hp=>(hp (hf p)).elim,λp hp=>by rw[hf p]at hp;omega,λp=>by show gf (Vn n).st p<=2;rw[hsp];omega⟩
 ·rw[get hA]at h1;exact(h1 (hf p)).elim
 ·rw[get h]at hy;obtain⟨c,ss,hc,ht⟩:=hy;have hss:ss=[]:=by
   have h2:=hc.2;simp only[newA]at h2;rw[zAQ]at h2;split at h2<;>simp at h2;exact h2
  subst hss;obtain⟨k',s,i,hs,_⟩:=(Ua (ga.cen _ _ _ hc)).1 ht;simp at hs
 ·rw[get h]at hr;simp[newA]at hr
end Go.Ar
namespace Go.Ar
open Go.Vc (mget mset mdel)
variable {H H':Hw}{held:List Pc}{s0:Sp}{t k j:Nat}{g:Th}{A:AR}{c:Cls}
theorem WnD {tb:List Cls}{cf:Cf}(h1:32<=cf.pages)(h2:cf.pages<=1024)(h3:cf.pages%16=0)(h4:1<=cf.arenas)(h6:tb.length<=40)(h7:∀c∈tb,c.ok):HI (Uc tb cf) [] (Vn cf.pages):=by
 have wi:=Wlx (tb:=tb) (n:=cf.pages) (room:=cf.room) (m:=cf.arenas) h1 h2 h3 h6 h7;have thg:∀g∈(Uc tb cf).ths,g=⟨List.replicate tb.length liN,[],none⟩:=λg hg=>(zEQ.1 hg).2;have li0:∀k,(List.replicate tb.length liN).getD k liN=liN:=λk=>by
  rw[zL,zAQ];split<;>rfl
 refine⟨wi,Sim.refl _,λk x=>?_,zDD,λe he=>by simp[Uc]at he,λg hg s a hp=>?_,λg hg=>?_,h7,?_,?_⟩
 ·have hz:∀(n:Nat) (f:Th->Nat) (g:Th),f g=0->((List.replicate n g).map f).sum=0:=λn f g h=>by
   rw[zDM,h]
   induction n with
   | zero=>rfl
   | succ n ih=>rw[zEF,zAW,ih]
  have h0:cnT ⟨List.replicate tb.length liN,[],none⟩ k x=0:=by
   unfold cnT cnL;split
   ·simp only[li0];rfl
   ·rfl
  have:cnH (Uc tb cf) k x=0:=by
   unfold cnH;show cnV [] k x+((List.replicate cf.threads (⟨List.replicate tb.length liN,[],none⟩:Th)).map λg=>cnT g k x).sum=0;rw[hz _ _ _ h0];rfl
  rw[this,QQ];rintro⟨p,hp,_⟩;simp at hp
 ·rw[thg g hg]at hp;cases hp
 ·rw[thg g hg];refine⟨by simp[Uc],λl hl=>?_,λb hb=>by simp at hb,by simp,by unfold PhI;rfl⟩;rw[(zEQ.1 hl).2];exact⟨LiOk.nil,by simp[liN]⟩
 ·show 1<=(List.replicate cf.arenas (newA cf.pages cf.room tb)).length;simpa using h4
 ·show(List.replicate cf.pages 0).length=cf.pages;simp
def KL (H H':Hw):Prop:=∀e∈H.live,∀w:Nat,e.1<=((8*w:Nat):Int)->((8*w:Nat):Int)<e.1+e.2.2.1->H'.sp.wd w=H.sp.wd w
theorem HI.wi' (h:HI H held s0):WI ⟨H.tb,s0,H.ars,held⟩:=h.wi
theorem HI.mapped (h:HI H held s0){p:Pc}(hp:p∈held){x:Nat}(h1:p.addr<=x)(h2:x<p.addr+p.size):gf H.sp.st (x/256)≠0:=by
 obtain⟨A,hA,_⟩:=h.wi.hf p hp;have e1:=h.wi.page hp hA h1 h2;have:=(h.wi.ow _ A hA).own (x/256) (by omega);intro hz;exact this ((h.sim.z _).1 hz)
theorem HI.kl (h:HI H held s0)(k:KS H.sp H'.sp):KL H H':=λe he w h1 h2=>by
 obtain⟨_,p,hp,_,_,h3,h4,_⟩:=h.lv e he;have hm:=h.mapped hp (x:=8*w) (by omega) (by omega);exact(k.k _ hm).2 w (by omega)
theorem KL.refl (H:Hw):KL H H:=λ_ _ _ _ _=>rfl
theorem KL.trans {H1 H2 H3:Hw}(a:KL H1 H2)(b:KL H2 H3)(hl:∀e∈H1.live,e∈H2.live):KL H1 H3:=λe he w h1 h2=>(b e (hl e he) w h1 h2).trans (a e he w h1 h2)
structure ArOk (H H':Hw):Prop where
 hi:∃held s0,HI H' held s0
 live:H'.live=H.live
 ths:H'.ths=H.ths
 kp:Z1 H' H
 kl:KL H H'
theorem ArOk.refl (h:HI H held s0):ArOk H H:=⟨⟨_,_,h⟩,rfl,rfl,Z1.refl _,KL.refl _⟩
theorem ArOk.trans {H1 H2 H3:Hw}(a:ArOk H1 H2)(b:ArOk H2 H3):ArOk H1 H3:=⟨b.hi,b.live.trans a.live,b.ths.trans a.ths,a.kp.trans b.kp,a.kl.trans b.kl λe he=>by rw[a.live];exact he⟩
theorem HI.n (h:HI H held s0)(hk:H.ars[k]?=some A):A.n=H.cf.pages:=by
 have:=(h.wi.ow k A hk).l;have h2:=h.sim.l;have h3:=h.sl;simp only at this;omega
theorem HI.few (h:HI H held s0)(h208:H.cf.pages<=208)(hk:H.ars[k]?=some A):(Vv (YC A).st).length<=12:=WfO (h.wi.ga k A hk) (by rw[h.n hk];exact h208) (h.wi.low k A hk)
theorem Wnm (h:HI H held s0)(hk:H.ars[k]?=some A){B:AR}{s0' sp':Sp}(wi:WI ⟨H.tb,s0',H.ars.set k B,held⟩)(hw:∀w,B.f (w/32)=1->sp'.wd w=H.sp.wd w)(hoth:∀w,A.f (w/32)=0->B.f (w/32)=0->sp'.wd w=H.sp.wd w):KL H {H.setA k B with sp:=sp'}:=by
 intro e he w h1 h2;obtain⟨_,p,hp,_,_,h3,h4,_⟩:=h.lv e he;obtain⟨C,hC,_⟩:=h.wi.hf p hp;obtain⟨D,hD,_⟩:=wi.hf p hp;have e1:=h.wi.page hp hC (x:=8*w) (by omega) (by omega);have e2:=wi.page hp hD (x:=8*w) (by omega) (by omega);rw[show 8*w/256=w/32 by omega]at e1 e2;have hkl:=(gSi.1 hk).1;by_cases hpk:p.k=k
 ·have hB:(H.ars.set k B)[k]?=some B:=zK hkl;have hD:(H.ars.set k B)[p.k]?=some D:=hD;rw[hpk,hB]at hD;cases hD;exact hw w e2
 ·refine hoth w ?_ ?_
  ·apply Classical.byContradiction;intro hn;exact hpk (h.wi.one (w/32) p.k k C A hC hk (by omega) hn)
  ·have hB:(H.ars.set k B)[k]?=some B:=zK hkl;apply Classical.byContradiction;intro hn;exact hpk (wi.one (w/32) p.k k D B hD hB (by omega) hn)
theorem WnF (h:HI H held s0)(hk:H.ars[k]?=some A)(want:Int):ArOk H {H.setA k (relS A H.sp want).1 with sp:=(relS A H.sp want).2}:=by
 have ga:=h.wi.ga k A hk;obtain⟨e1,e2,e3⟩:=h.sim.relS A want;obtain⟨s,r1,r2,r3⟩:=WmA ga (h.wi.ow k A hk) want;have wi:=h.wi.stepSame hk s r1 r3 r2;rw[show(Wd.mk H.tb s0 H.ars held).sp=s0 from rfl,←e1]at wi;have hi:=h.updA wi e2 e3 (by simp[Wd.put]) (λ_ _=>Iff.rfl) (λp hp _=>hp);have key:KL H {H.setA k (relS A H.sp want).1 with sp:=(relS A H.sp want).2}:=by
  by_cases h0:want<0
  ·have:relS A H.sp want=(A,H.sp):=by unfold relS;rw[zA h0]
   rw[this];exact λ_ _ _ _ _=>rfl
  ·obtain⟨z,_⟩:=WhT ga (h.wi.ow k A hk) (want:=want) (by omega);have hsw:=Ux ga;have hwd:∀w,¬inR (VY A want) (w/32)->(relS A H.sp want).2.wd w=H.sp.wd w:=λw hw=>by
    rw[e2.w,z.wd w hw,h.sim.w]
   refine Wnm h hk wi (λw hw=>hwd w λhr=>?_) λw ha _=>hwd w λhr=>?_
   ·have:=(z.i _ hr).2.1;rw[e1]at hw;simp only at this;omega
   ·have:=(z.i _ hr).1;have:=(hsw.1.kp.z (w/32)).2 ha;omega
 exact⟨⟨_,_,hi⟩,rfl,rfl,Qf _ _ _ _,key⟩
theorem WmT (h:HI H held s0)(hk:H.ars[k]?=some A):ArOk H {H.setA k (trimS A H.sp).1 with sp:=(trimS A H.sp).2}:=by
 have ga:=h.wi.ga k A hk;obtain⟨e1,e2,e3⟩:=h.sim.trimS A;have z:=Wjh ga (h.wi.ow k A hk);have wi:=h.wi.stepSame hk z.st z.runs (λj y=>by unfold TkA Cl;rw[z.st.tb,z.cen]) z.tra;rw[show(Wd.mk H.tb s0 H.ars held).sp=s0 from rfl,←e1]at wi;have hi:=h.updA wi e2 e3 (by simp[Wd.put]) (λ_ _=>Iff.rfl) (λp hp _=>hp);have hwd:∀w,w/32/16∉Kf A.st 0->(trimS A H.sp).2.wd w=H.sp.wd w:=λw hw=>by
  rw[e2.w,z.wd w hw,h.sim.w]
 have key:KL H {H.setA k (trimS A H.sp).1 with sp:=(trimS A H.sp).2}:=by
  refine Wnm h hk wi (λw hw=>hwd w λhr=>?_) λw ha _=>hwd w λhr=>?_
  ·rw[e1,z.f,zA hr]at hw;omega
  ·have:=((Wdp ga).1 hr).2 (w/32) rfl;omega
 exact⟨⟨_,_,hi⟩,rfl,rfl,Qf _ _ _ _,key⟩
theorem Wlt (h:HI H held s0)(hk:H.ars[k]?=some A):ArOk H (H.setA k (UV A)):=by
 have wi:=h.wi.tick hk;have hi:=h.updA (sp':=H.sp) wi h.sim rfl (by simp[Wd.put]) (Wl0 _) (λp hp _=>(zG.1 hp).1);exact⟨⟨_,_,hi⟩,rfl,rfl,Qf _ _ _ H.sp,λ_ _ _ _ _=>rfl⟩
theorem Wg8 (h:HI H held s0)(n:Nat):ArOk H (Uu H n):=by
 induction n with
 | zero=>exact ArOk.refl h
 | succ n ih=>
  rw[U0];split
  ·rename_i A hA;obtain⟨held',s0',h'⟩:=ih.hi;exact ih.trans (Wlt h' hA)
  ·exact ih
theorem Whk (st:List Nat)(k:Nat):(Kf st k).length<=st.length/16:=by
 unfold Kf;exact zN (zBB _ _) (by simp)
theorem WhH (h:HI H held s0)(n:Nat):ArOk H (QE H n).1/\(QE H n).2<=n*64:=by
 induction n with
 | zero=>exact⟨ArOk.refl h,zC _⟩
 | succ n ih=>
  obtain⟨ih,i2⟩:=ih;rw[U3];split
  ·rename_i A hA;obtain⟨held',s0',h'⟩:=ih.hi;refine⟨ih.trans (WmT h' hA),?_⟩;have ga:=h'.wi.ga n A hA;have h1:=Whk A.st 0;have h2:=ga.pg.len;have h3:=ga.pg.n2;simp only[WfU];omega
  ·exact⟨ih,by omega⟩
theorem WaS (st:List Nat)(e:Nat):∀(f p:Nat),(QW st e f p).length<=f/\∀r∈QW st e f p,r.2<=e-p
 | 0,p=>⟨by simp[QW],by simp[QW]⟩
 | f+1,p=>by
  unfold QW;split
  ·exact⟨by simp,by simp⟩
  ·split
   ·obtain⟨h1,h2⟩:=WaS st e f (p+1);exact⟨by omega,λr hr=>by have:=h2 r hr;omega⟩
   ·obtain⟨h1,h2⟩:=WaS st e f (p+runL st p (e-p)+1);refine⟨by simp;omega,λr hr=>?_⟩;rcases zR.1 hr with rfl|hr
    ·have:runL st p (e-p)<=e-p:=by
      unfold runL;refine zN (List.Sublist.length_le (List.takeWhile_sublist _)) ?_;rw[zV];omega
     exact this
    ·have:=h2 r hr;omega
theorem Wib {α:Type}(f:α->Nat)(c:Nat):∀l:List α,(∀x∈l,f x<=c)->(l.map f).sum<=l.length*c
 | [],_=>by simp
 | x::l,h=>by
  have h1:=Wib f c l λy hy=>h y (by simp[hy]);have h2:=h x (by simp);rw[zU,zAW,zT,zj];omega
theorem WmG (h:GA A)(want:Int):relV A want<=17408:=by
 unfold relV;split
 ·omega
 ·have h1:=(Ux h).1;have hl:(YC A).st.length<=1024:=by rw[h1.ga.pg.len];exact h1.ga.pg.n2
  unfold VY Hc;have hsub:=WbQ want 0 ((ordT (YC A).st).flatMap (KO (YC A).st));have hrl:∀x,(KO (YC A).st x).length<=17/\∀r∈KO (YC A).st x,r.2<=16:=λx=>by
   have:=WaS (YC A).st (16*x+16) 17 (16*x);exact⟨this.1,λr hr=>by have:=this.2 r hr;omega⟩
  have hlen:((ordT (YC A).st).flatMap (KO (YC A).st)).length<=64*17:=by
   rw[List.length_flatMap];refine zN (Wib (λx=>(KO (YC A).st x).length) 17 _ λx _=>(hrl x).1) ?_;have h2:=(WcC (YC A).st).length_eq;have h3:=zBB (λh=>decide (0<cntR (YC A).st (16*h) (16*h+16) 2)) (List.range ((YC A).st.length/16));rw[zCF]at h3;have:(ordT (YC A).st).length<=64:=by omega
   omega
  have hle:∀r∈(ordT (YC A).st).flatMap (KO (YC A).st),r.2<=16:=λr hr=>by
   obtain⟨x,_,hx⟩:=zDC.1 hr;exact(hrl x).2 r hx
  have h4:=Wib (λr:Nat×Nat=>r.2) 16 (cutW want 0 ((ordT (YC A).st).flatMap (KO (YC A).st))) λr hr=>hle r (hsub.subset hr);have h5:=hsub.length_le;omega
theorem WkA (h:HI H held s0)(want:Int)(n:Nat):ArOk H (QB H want n).1/\(QB H want n).2<=n*17408:=by
 induction n with
 | zero=>exact⟨ArOk.refl h,zC _⟩
 | succ n ih=>
  obtain⟨ih,i2⟩:=ih;rw[UK];split
  ·exact⟨ih,zN i2 (zAH _ (Nat.le_succ n))⟩
  ·split
   ·rename_i A hA;obtain⟨held',s0',h'⟩:=ih.hi;refine⟨ih.trans (WnF h' hA _),?_⟩;have:=WmG (h'.wi.ga n A hA) (want-((QB H want n).2:Int));simp only;omega
   ·exact⟨ih,zN i2 (zAH _ (Nat.le_succ n))⟩
theorem WI.wd {W:Wd}(h:WI W)(f:Nat->Int):WI {W with sp:={W.sp with wd:=f}}:=
 ⟨h.ga,λk A hk=>⟨(h.ow k A hk).l,(h.ow k A hk).own,(h.ow k A hk).cl,(h.ow k A hk).le⟩,h.tb,h.low,h.own,h.one,h.hk,h.hf,h.ht,h.hr⟩
theorem Wdk {sp:Sp}{x:Int}(h:accE sp x=0):0<=x/\x%8=0/\gf sp.st (x.toNat/256)≠0:=by
 unfold accE at h;split at h
 ·cases h
 ·split at h
  ·cases h
  ·exact⟨by omega,by omega,by assumption⟩
theorem Wav (sp:Sp)(x v:Int):(Kt sp x v).st.length=sp.st.length/\(∀p,gf (Kt sp x v).st p=0↔gf sp.st p=0)/\∀w,(Kt sp x v).wd w=if accE sp x=0/\w=x.toNat/8 then v else sp.wd w:=by
 unfold Kt;split
 ·rename_i h0;have hz:=Wdk h0;refine⟨by simp[putW],λp=>?_,λw=>?_⟩
  ·show gf (sp.st.set (x.toNat/8/32) 2) p=0↔_;have hpe:x.toNat/8/32=x.toNat/256:=by omega
   rw[hpe];unfold gf at hz ⊢;rw[zL]at hz ⊢;rw[zL,zBF];split
   ·rename_i he;split
    ·rw[←he];simp only[zAL];exact⟨λh=>by omega,λh=>(hz.2.2 h).elim⟩
    ·rename_i hl;rw[zW (by omega)]at hz;exact(hz.2.2 rfl).elim
   ·exact Iff.rfl
  ·show(if w=x.toNat/8 then v else sp.wd w)=_
   by_cases hw:w=x.toNat/8
   ·rw[zA hw,zA ⟨h0,hw⟩]
   ·rw[zB hw,zB λh=>hw h.2]
 ·exact⟨rfl,λ_=>Iff.rfl,λw=>by rw[zB λh=>by have:=h.1;contradiction]⟩
theorem HI.write (h:HI H held s0)(x v:Int):HI {H with sp:=Kt H.sp x v} held {s0 with wd:=(Kt H.sp x v).wd}:=by
 obtain⟨h1,h2,_⟩:=Wav H.sp x v;exact⟨h.wi.wd _,⟨h1.trans h.sim.l,λp=>(h2 p).trans (h.sim.z p),rfl⟩,h.cn,h.lk,h.lv,h.gv,h.th,h.ok,h.a1,h1.trans h.sl⟩
end Go.Ar
namespace Go.Ar
open Go Go.Vc Go.Proofs
variable {U u w w':Hp}{F B P Q:Rg}{L:LayH}{H H':Hw}{t n:Nat}{g:Th}
def putK (s:ByteArray)(i k:Nat)(w:Int):Int:=match s[i*8+k]? with
 | some b=>bits .or .u64 w (IntKind.u64.wrap (IntKind.u64.wrap (b.toNat:Int)*2^(min (8*k) 64)))
 | none=>w
def putF (s:ByteArray)(i n:Nat):Int:=(List.range n).foldl (λw k=>putK s i k w) 0
def Wop (s:ByteArray)(i:Nat):Int:=IntKind.i64.wrap (putF s i 8)
def putS (sp:Sp)(a:Int)(s:ByteArray)(n:Nat):Sp:=(List.range n).foldl (λsp (i:Nat)=>Kt sp (a+((i:Int)+1)*8) (Wop s i)) (Kt sp a (s.size:Int))
inductive PutR (H:Hw) (thread:Int) (s:ByteArray):Hw->Int->Int->Prop
 | notReady:Z7 H thread≠0->PutR H thread s H 0 (Z7 H thread)
 | long:Z7 H thread=0->400<s.size->PutR H thread s H 0 3
 | full {H':Hw} {a e:Int}:Z7 H thread=0->s.size<=400->KR H thread 0 ((((s.size+7)/8+1)*8:Nat):Int) 8 0 H' a e->e≠0->PutR H thread s H' 0 e
 | ok {H1:Hw} {a:Int}:Z7 H thread=0->s.size<=400->KR H thread 0 ((((s.size+7)/8+1)*8:Nat):Int) 8 0 H1 a 0->0<=a->a<=500000000000->PutR H thread s {H1 with sp:=putS H1.sp a s ((s.size+7)/8)} a 0
theorem WeR {s:ByteArray}{i:Nat}:s[i]?=if h:i<s.size then some s[i]else none:=by
 by_cases h:i<s.size
 ·rw[dif_pos h];exact getElem?_pos s i h
 ·rw[dif_neg h];exact getElem?_neg s i h
theorem Wlr (hso:UZ)(h:HH U F L H)(hc:CfOk H){thread a e:Int}{s:ByteArray}(hr:PutR H thread s H' a e){R:Int->Int->Hp->Prop}
 (hR:∀σ' ts',Ext F U σ'->HH σ' (Grow F U) {L with ts:=ts'} H'->R a e σ'):Qy.c (some ⟨L.p,0,none⟩) thread s U R:=by
 refine Qy.o ?_;unfold Qy.v;refine nw (cs:=[.int .i64 thread]) λv hz e0 hb=>?_;have K1:=(HK.start h).box e0 hz;refine Wc7 K1.h hc hb (λhf=>by have:=hf.2;omega) λv1 e1=>?_;have K2:=K1.fr e1;have siz:s.size<=400->∀{K:Int->Prop},K (((((s.size+7)/8+1)*8:Nat)):Int)->Ar .i64 (((s.size:Nat):Int)+8) λt28=>Ar .i64 (t28-1) λt29=>Nz 8<|Ar .i64 (t29.tdiv 8) λn=>Ar .i64 (n+1) λt35=>Ar .i64 (t35*8) λt36=>K t36:=λhs K hK=>by
  refine arN (m:=s.size+8) (by omega) (by omega) (arN (m:=s.size+7) (by omega) (by omega) (nz (by decide) (arN (m:=(s.size+7)/8) (by rw[Xn (by omega)];omega) (by omega) (arN (m:=(s.size+7)/8+1) (by omega) (by omega) (arN (m:=((s.size+7)/8+1)*8) (by omega) (by omega) hK)))))
 cases hr with
 | notReady h0=>exact ifT (by simpa using h0) (hR _ L.ts K2.e (K2.fin h))
 | long h0 hs=>exact ifF (by rw[h0];rfl) (ifDT (by omega) (hR _ L.ts K2.e (K2.fin h)))
 | @full H' a' e' h0 hs hw hne=>
  refine ifF (by rw[h0];rfl) (ifDF (by omega) ?_);refine arN (m:=s.size+8) (by omega) (by omega) (arN (m:=s.size+7) (by omega) (by omega) (nz (by decide) (arN (m:=(s.size+7)/8) (by rw[Xn (by omega)];omega) (by omega) (arN (m:=(s.size+7)/8+1) (by omega) (by omega) (arN (m:=((s.size+7)/8+1)*8) (by omega) (by omega) ?_)))));refine KV hso K2.h hc.2.2 hw λv3 ts3 e3 h3=>?_;have K3:=K2.to e3 h3 λb _ hb=>hb;exact ifT (by simpa using hne) (hR v3 ts3 K3.e (K3.fin h))
 | @ok H1 a' h0 hs hw ha0 ha1=>
  refine ifF (by rw[h0];rfl) (ifDF (by omega) ?_);refine arN (m:=s.size+8) (by omega) (by omega) (arN (m:=s.size+7) (by omega) (by omega) (nz (by decide) (arN (m:=(s.size+7)/8) (by rw[Xn (by omega)];omega) (by omega) (arN (m:=(s.size+7)/8+1) (by omega) (by omega) (arN (m:=((s.size+7)/8+1)*8) (by omega) (by omega) ?_)))));refine KV hso K2.h hc.2.2 hw λv3 ts3 e3 h3=>?_;have K3:=K2.to e3 h3 λb _ hb=>hb;refine ifF rfl (Hk K3.h a _ (by omega) λv4 e4 h4=>?_);have K4:=K3.to e4 h4 λb _ hb=>hb;generalize hn:(s.size+7)/8=n at hR;refine ZD (a:=.i .i64) (λ(z:Int) w=>∃(i:Nat) (B P:Rg),z=(i:Int)/\i<=n/\HK F U B w P {L with ts:=ts3} {H1 with sp:=putS H1.sp a s i}) (λz _=>n-z.toNat) ⟨0,_,_,rfl,by omega,K4⟩ ?_;rintro(z:Int) w ⟨i,B,P,rfl,hi,K⟩;refine ifD (λhlt=>?_) λhge=>?_
  ·refine Vm (a:=.i .u64) (bb:=.i .i64) (λ(x z:Int) w'=>w'=w/\∃k:Nat,z=(k:Int)/\k<=8/\x=putF s i k) (λ_ z _=>8-z.toNat) ⟨rfl,0,rfl,by omega,rfl⟩ ?_;rintro(x:Int) (z:Int) w' ⟨rfl,k,rfl,hk,rfl⟩;refine ifD (λhlt2=>?_) λhge2=>?_
   ·have hsn:putK s i k (putF s i k)=putF s i (k+1):=by unfold putF;rw[zt,zAE];rfl
    refine arN (m:=i*8) (by omega) (by omega) (arN (m:=i*8+k) (by omega) (by omega) (ifD (λhb=>?_) λhb=>?_))
    ·have hlt3:i*8+k<s.size:=by omega
     have hgb:s[i*8+k]?=some s[i*8+k]:=by rw[WeR,dif_pos hlt3]
     refine⟨s[i*8+k],by omega,by rw[iTn];exact hgb,arW (arN (m:=8*k) (by omega) (by omega) (nn (by omega) (arW (arN (m:=k+1) (by omega) (by omega) ⟨⟨rfl,k+1,rfl,by omega,?_⟩,by omega⟩))))⟩;rw[←hsn];unfold putK;rw[hgb];have:min ((8*k:Nat):Int).toNat IntKind.u64.bits=min (8*k) 64:=rfl;rw[this]
    ·have hgb:s[i*8+k]?=none:=by rw[WeR,dif_neg (by omega)]
     refine arN (m:=k+1) (by omega) (by omega) ⟨⟨rfl,k+1,rfl,by omega,?_⟩,by omega⟩;rw[←hsn];unfold putK;rw[hgb]
   ·have hk8:k=8:=by omega
    subst hk8;refine arN (m:=i+1) (by omega) (by omega) (arN (m:=(i+1)*8) (by omega) (by omega) (ar (by omega) (by omega) (arW (Hk K.h _ _ (by omega) λw1 e1 h1=>?_))));have K1:=K.to e1 h1 λb _ hb=>hb;have hsn:Kt (putS H1.sp a s i) (a+(((i+1)*8:Nat):Int)) (IntKind.i64.wrap (putF s i 8))=putS H1.sp a s (i+1):=by
     unfold putS;rw[zt,zAE];have:a+(((i+1)*8:Nat):Int)=a+((i:Int)+1)*8:=by omega
     rw[this];rfl
    simp only[hsn]at K1;exact arN (m:=i+1) (by omega) (by omega) ⟨⟨i+1,_,_,rfl,by omega,K1⟩,by omega⟩
  ·have hin:i=n:=by omega
   subst hin;exact hR w ts3 K.e (K.fin h)
def getB (sp:Sp)(a:Int)(j:Nat):Int:=IntKind.u8.wrap ((IntKind.u64.wrap (Kb sp (a+(((j/8+1)*8:Nat):Int)))).fdiv (2^(min (8*(j%8)) 64)))
def Wnk (sp:Sp)(a:Int)(n:Nat):ByteArray:=⟨(((List.range n).map (getB sp a)).map λx=>UInt8.ofNat x.toNat).toArray⟩
def Gz (H:Hw)(a u:Int):Bool:=accE H.sp a != 0||(decide (Kb H.sp a<0)||(decide (400<Kb H.sp a)||decide (u/8<(Kb H.sp a+7)/8+1)))
def getV (H:Hw)(a:Int):ByteArray:=match Yj H a with
 | none=>ByteArray.mk #[]
 | some u=>if Gz H a u then ByteArray.mk #[]else Wnk H.sp a (Kb H.sp a).toNat
def getE (H:Hw)(a:Int):Int:=match Yj H a with
 | none=>8
 | some u=>if Gz H a u then 2 else 0
theorem WmQ (h:HH U F L H)(hc:CfOk H)(a:Int)(ha:a<=500000000000)(hu:∀u,Yj H a=some u->0<=u/\u<=1000000000)(ha0:(Yj H a).isSome=true->0<=a){R:ByteArray->Int->Hp->Prop}
 (hR:∀σ',Ext0 U σ'->R (getV H a) (getE H a) σ'):Qz.c (some ⟨L.p,0,none⟩) a U R:=by
 refine Qz.o ?_;unfold Qz.v;refine WcG h hc λv e=>ifF rfl (Qj (h.keep0 e) a λv1 e1=>?_);have e01:=e.trans e1;cases hus:Yj H a with
 | none=>
  have:=hR v1 e01;unfold getV getE at this;rw[hus]at this;exact ifT rfl this
 | some u=>
  have hub:=hu u hus;have ha0:=ha0 (by rw[hus];rfl);have hV:getV H a=if Gz H a u then ByteArray.mk #[]else Wnk H.sp a (Kb H.sp a).toNat:=by unfold getV;rw[hus]
  have hE:getE H a=if Gz H a u then 2 else 0:=by unfold getE;rw[hus]
  rw[hV,hE]at hR;simp only[zAL,Option.isSome_some,zO];refine ifF rfl (Vi (h.keep0 e01) a (by omega) λv2 e2=>?_);have e02:=e01.trans e2;refine QM (λr w=>w=v2/\r=(accE H.sp a != 0||decide (Kb H.sp a<0))) (λr w ⟨hw,hr⟩=>?_) λJ hJ=>?_
  ·subst hw;refine QM (λr w2=>w2=w/\r=(accE H.sp a != 0||(decide (Kb H.sp a<0)||decide (400<Kb H.sp a)))) (λr w2 ⟨hw,hr1⟩=>?_) λJ1 hJ1=>?_
   ·rw[hw];refine QM (λr w2=>w2=w/\r=Gz H a u) (λr w2 ⟨hw,hr2⟩=>?_) λJ2 hJ2=>?_
    ·rw[hw];refine iff_ (λh1=>?_) λh0=>?_
     ·have:=hR w e02;rw[←hr2,h1]at this;exact this
     ·rw[←hr2,h0]at hR;have hb:=hr2.symm.trans h0;simp only[Gz,zFF,decide_eq_false_iff_not]at hb;obtain⟨_,hb1,hb2,hb3⟩:=hb;generalize hn:(Kb H.sp a).toNat=m at hR;have hm:Kb H.sp a=(m:Int):=by omega
      rw[hm];refine mk (n:=m) (by omega) (by omega) λv6 hz6 e6 hb6=>?_;have hw6:=h.keep0 (e02.trans e6);have K0:=(HK.start (h.keep0 e02)).box e6 hz6;refine ZD (a:=.i .i64) (λ(z:Int) w'=>∃(i:Nat) (cs:List Value),z=(i:Int)/\i<=m/\HK F w (λb=>False\/b=w.size) w' (Cut F w) L H/\Ext0 w w'/\Blk w' w.size cs/\cs.length=m/\∀j,j<i->cs[j]?=some (.int .u8 (getB H.sp a j))) (λz _=>m-z.toNat) ⟨0,_,rfl,by omega,K0,e6,hb6,by simp,λj hj=>by omega⟩ ?_;rintro(z:Int) w' ⟨i,cs,rfl,hi,K,ew,hbw,hcl,hrd⟩;refine ifD (λhlt=>?_) λhge=>?_
      ·simp only at hlt;refine nz (by decide) (arN (m:=i/8) (by rw[Xn (by omega)];omega) (by omega) (arN (m:=i/8+1) (by omega) (by omega) (arN (m:=(i/8+1)*8) (by omega) (by omega) (ar (by omega) (by omega) (Vi K.h _ (by omega) λw1 e1=>?_)))));refine arW (nz (by decide) (arN (m:=8*(i%8)) (by rw[QA (by omega)];omega) (by omega) (nn (by omega) (arW ?_))));refine ix (by omega) (by simp only;omega) ?_;rw[add_lit,show 0+(i:Int).toNat*1=i by omega];have K1:=K.fr e1;refine(e1.blk hbw id).s0 (by omega) λw2 o2 hb2=>?_;refine arN (m:=i+1) (by omega) (by omega) ⟨⟨i+1,_,rfl,by omega,K1.own o2 (.inr rfl),(ew.trans e1).only o2 (.inr (zC _)),hb2,by simp[hcl],λj hj=>?_⟩,by omega⟩;by_cases hji:j=i
       ·subst hji;rw[zK (by omega)];rfl
       ·rw[zd (by omega)];exact hrd j (by omega)
      ·have hin:i=m:=by simp only at hge;omega
       subst hin;have hcs:cs=((List.range i).map (getB H.sp a)).map (.int .u8):=by
        apply zn;intro j;by_cases hj:j<i
        ·rw[hrd j hj];simp[hj]
        ·rw[zW (by omega),zW (by simp;omega)]
       refine⟨(List.range i).map (getB H.sp a),by simp,?_,hR w' (e02.trans ew)⟩;intro j v' hv';rw[add_lit,hbw.cell,hcs];simpa using hv'
    ·refine iff_ (λh1=>hJ2 _ _ ⟨rfl,?_⟩) λh0=>?_
     ·rw[hr1]at h1;simp only[Gz,zAT]at h1 ⊢;rcases h1 with h1|h1|h1
      ·rw[h1];simp
      ·rw[h1];simp
      ·rw[h1];simp
     ·rw[hr1]at h0;simp only[zFF,decide_eq_false_iff_not]at h0;obtain⟨q1,q2,q3⟩:=h0;refine ar (by omega) (by omega) (ar (by omega) (by omega) (nz (by decide) (ar (by rw[Xn (by omega)];omega) (by rw[Xn (by omega)];omega) ?_)));rw[Xn (by omega)];refine ar (by omega) (by omega) (WfF u hub.1 (by omega) (hJ2 _ _ ⟨rfl,?_⟩));unfold Gz;rw[q1,zJ q2,zJ q3,zCB,zCB,zCB];rw[decide_eq_decide];omega
   ·refine iff_ (λh1=>hJ1 _ _ ⟨rfl,?_⟩) λh0=>hJ1 _ _ ⟨rfl,?_⟩
    ·rw[hr]at h1;simp only[zAT]at h1;rcases h1 with h1|h1
     ·rw[h1];simp
     ·rw[h1];simp
    ·rw[hr]at h0;simp only[zFF]at h0;rw[h0.1,h0.2,zCB,zCB]
  ·refine iff_ (λh1=>hJ _ _ ⟨rfl,by rw[h1];rfl⟩) λh0=>hJ _ _ ⟨rfl,by rw[h0];rfl⟩
end Go.Ar
namespace Go.Proofs
open Go.Vc
set_option maxRecDepth 100000
def WY.h:Hn:=.q .o2 (.q (.q (.reg (.seq [.op,.op,.op,.grd false 2 [.op,.op]])) (.c (.q .o2 .l) .l)) (.q .o1 (.q .o1 (.q (.k (.loop [(4,.one .s),(5,.I)] (.q (.q .o2 (.c .l .l)) (.k (.q .o7 .o6))))) (.q .o6 (.q .o1 (.q (.q .o1 (.k (.loop [(6,.one .s),(7,.I)] (.q (.q .o4 (.c .l .l)) (.q (.k (.q (.reg (.heldJ true [] [(70,.one .b)] (.take 0 (.take 1 (.take 2 (.take 3 (.take 4 (.take 5 (.split 43 (.take 6 (.take 7 (.take 8 (.take 9 (.take 10 (.take 11 (.take 12 (.take 13 (.take 14 (.take 15 (.take 16 (.take 17 (.take 18 (.take 19 (.take 20 (.take 21 (.take 22 (.take 23 (.take 24 (.take 25 (.take 26 (.take 27 (.take 28 (.take 29 (.take 30 (.take 31 (.take 32 (.done)))))))))))))))))))))))))))) (.take 6 (.take 7 (.take 8 (.take 9 (.take 10 (.take 11 (.take 12 (.take 13 (.take 14 (.take 15 (.take 16 (.take 17 (.take 18 (.take 19 (.split 57 (.take 20 (.take 21 (.take 22 (.take 23 (.take 24 (.take 25 (.take 26 (.take 27 (.take 28 (.take 29 (.take 30 (.take 31 (.take 32 (.done)))))))))))))) (.take 20 (.take 21 (.take 22 (.take 23 (.take 25 (.take 26 (.take 27 (.take 28 (.take 29 (.all [(24,.all [(30,.take 31 (.take 32 (.done)))])])))))))))))))))))))))))))))))))))) (.c .o8 .l))) .o3))))) (.q .o3 .l))))))))
def WY.v (a:Int)(b:Hp)(c:Sl->Int->Hp->Prop):Prop:=JnB (λd e=>If d (c ⟨none,0,0⟩ 1 e) (Xo [.s,(.i .i64)] (λf=>f ⟨none,0,0⟩ 8 e) λg (h:Sl) (i:Int) j=>If (i<512) (Xj.c i a j λk l m n=>Nw (.cells #[.I k,.I l,.I m] 79 (0,0)) n λo p=>App h 3 24 79 [.I 0,.I 0,.I 0] ⟨some o,1,1⟩ p λq r=>XX.c i a r λs t=>Ar .i64 (i+s) λu=>g q u t) (Xj.c 512 a j λv w x y=>Nw (.cells #[.I v,.I w,.I x] 79 (0,0)) y λz aa=>App h 3 24 79 [.I 0,.I 0,.I 0] ⟨some z,1,1⟩ aa λab ac=>Xo [.s,(.i .i64)] (λad=>ad ⟨none,0,0⟩ 0 ac) λae (af:Sl) (ag:Int) ah=>If (ag<((ab.len:Nat):Int)) (Jn [.b] (λ(ai:Bool) aj=>If ai (Ix ab.a ab.len ag 3 λak=>LdI .i64 (ak.add 0) aj λal=>LdI .i64 (ak.add 1) aj λam=>LdI .i64 (ak.add 2) aj λan=>Nw (.cells #[.I al,.I am,.I an] 79 (0,0)) aj λao ap=>App af 3 24 79 [.I 0,.I 0,.I 0] ⟨some ao,1,1⟩ ap λaq ar=>Ar .i64 (ag+1) λau=>ae aq au ar) (Ar .i64 (ag+1) λav=>ae af av aj)) λaw=>Held ah λax=>Ar .i64 (((ab.len:Nat):Int)-1) λay=>If (ag==ay) (aw true ah) (Ix ab.a ab.len ag 3 λaz=>LdH ax (.i .i64) (az.add 1) λ(a0:Int)=>Ar .i64 (ag+1) λa1=>Ix ab.a ab.len a1 3 λa2=>LdH ax (.i .i64) (a2.add 1) λ(a3:Int)=>If (a0 != a3) (aw true ah) (Ix ab.a ab.len ag 3 λa4=>LdH ax (.i .i64) (a4.add 0) λ(a5:Int)=>LdH ax (.i .i64) (a4.add 1) λ(a6:Int)=>LdH ax (.i .i64) (a4.add 2) λ(a7:Int)=>Ar .i64 (ag+1) λa8=>Ix ab.a ab.len a8 3 λa9=>LdH ax (.i .i64) (a9.add 0) λ(ba:Int)=>LdH ax (.i .i64) (a9.add 1) λ(bb:Int)=>LdH ax (.i .i64) (a9.add 2) λ(bc:Int)=>WS.c a5 a6 a7 ah λbd be=>And (ax be) <|
 WS.c ba bb bc be λbf bg=>And (ax bg) <| aw (bd != bf) bg))) (c af 0 ah)))) λbh=>If (a<2) (bh true b) (bh (decide (a>16)) b)
theorem WY.o {a b c}(d:WY.v a b c):WY.c a b c:=Wa Tryz.func75 (x:=WY.h) (R0 d)
def Xj.h:Hn:=.q .o1 (.q .o8 (.q (.q .o1 (.k (.loop [(6,.I)] (.q (.q .o2 (.c .l .l)) (.q (.k (.q (.reg (.seq [.op,.op,.op,.op,.op,.grd true 9 (RI.ops 9)])) (.c .o3 .l))) .o3))))) (.q .o2 .l)))
def Xj.v (a b:Int)(c:Hp)(d:Int->Int->Int->Hp->Prop):Prop:=Nw (.cells #[.I 0,.I 0,.I 0] 79 (0,0)) c λe f=>Nz a<|Ar .i64 ((512:Int).tdiv a) λg=>Nw (.cells #[.I 0,.I 0,.I 0] 79 (0,0)) f λh i=>St1 (h.add 0) (.I a) i λj=>St1 (h.add 1) (.I 4) j λk=>St1 (h.add 2) (.I (if 32<(if 2>g then 2 else g)then 32 else(if 2>g then 2 else g))) k λl=>Xo [(.i .i64)] (λm=>m 4 l) λn (o:Int) p=>If (o≥1) (Ar .i64 (o*256) λq=>JnB (λr s=>If r (St1 (h.add 1) (.I o) s λt=>Ar .i64 (o-1) λu=>n u t) (Ar .i64 (o-1) λv=>n v s)) λw=>If (q≥a) (Ar .i64 (o*256) λx=>Nz a <| Ar .i64 (b*(x.tmod a)) λy=>Ar .i64 (o*256) λz=>w (decide (y<=z)) p) (w false p)) (LdI .i64 (h.add 0) p λaa=>LdI .i64 (h.add 1) p λab=>LdI .i64 (h.add 2) p λac=>St1 (e.add 0) (.I aa) p λad=>St1 (e.add 1) (.I ab) ad λae=>St1 (e.add 2) (.I ac) ae λaf=>LdI .i64 (e.add 0) af λag=>LdI .i64 (e.add 1) af λah=>LdI .i64 (e.add 2) af λai=>d ag ah ai af)
theorem Xj.o {a b c d}(e:Xj.v a b c d):Xj.c a b c d:=Wa Tryz.func102 (x:=Xj.h) (R0 e)
def XX.h:Hn:=.q .o1 (.q .o1 (.q (.k (.loop [(5,.I)] (.q (.q .o6 (.c .l .l)) (.k .o3)))) (.q .o2 .l)))
def XX.v (a b:Int)(c:Hp)(d:Int->Hp->Prop):Prop:=Xo [(.i .i64)] (λe=>e 8 c) λf (g:Int) h=>Ar .i64 (2*g) λi=>Nz b<|Ar .i64 (a.tdiv b) λj=>If (i<=j) (Ar .i64 (2*g) λk=>f k h) (d g h)
theorem XX.o {a b c d}(e:XX.v a b c d):XX.c a b c d:=Wa Tryz.func103 (x:=XX.h) (R0 e)
def WS.h:Hn:=.q .o2 (.q .o1 (.q (.k (.loop [(3,.I)] (.q (.q .o9 (.c .l .l)) (.k .o3)))) (.q .o2 .l)))
def WS.v (a b c:Int)(d:Hp)(e:Int->Hp->Prop):Prop:=Nw (.cells #[.I a,.I b,.I c] 79 (0,0)) d λf g=>Xo [(.i .i64)] (λh=>h 0 g) λi (j:Int) k=>Ar .i64 (j+1) λl=>LdI .i64 (f.add 0) k λm=>Ar .i64 (l*m) λn=>LdI .i64 (f.add 1) k λo=>Ar .i64 (o*256) λp=>If (n<=p) (Ar .i64 (j+1) λq=>i q k) (e j k)
theorem WS.o {a b c d e}(f:WS.v a b c d e):WS.c a b c d e:=Wa Tryz.func104 (x:=WS.h) (R0 f)
end Go.Proofs
namespace Go.Ar
open Go Go.Vc Go.Proofs
variable {U w:Hp}
abbrev T3:=Int×Int×Int
def v3 (x:T3):List Value:=[.int .i64 x.1,.int .i64 x.2.1,.int .i64 x.2.2]
def v3s (l:List T3):List Value:=l.flatMap v3
theorem Wee (l:List T3):(v3s l).length=l.length*3:=by
 induction l with
 | nil=>rfl
 | cons x l ih=>simp only[v3s,zBK,zP,v3,zT,zAM]at *;omega
theorem WkW (l:List T3)(x:T3):v3s (l++[x])=v3s l++v3 x:=by simp[v3s]
theorem Wci:∀{l:List T3} {i:Nat} {x:T3},l[i]?=some x->∀{d:Nat},d<3->(v3s l)[i*3+d]?=(v3 x)[d]?
 | [],_,_,h,_,_=>by simp at h
 | y::l,0,x,h,d,hd=>by
  simp at h;subst h;have e:v3s (y::l)=v3 y++v3s l:=rfl;rw[e,zh (by simp[v3];omega)];congr 1;omega
 | y::l,i+1,x,h,d,hd=>by
  have e:v3s (y::l)=v3 y++v3s l:=rfl;have e3:(v3 y).length=3:=rfl;rw[e,zl (by omega),e3,show(i+1)*3+d-3=i*3+d by omega];exact Wci (by simpa using h) hd
theorem We5 {Q:Rg}{s:Sl}{l:List T3}(h:Own Q U s 3 (v3s l)):Acts U s l:=by
 have hl:=h.1;rw[Wee]at hl;refine⟨by omega,λi x y z hx=>?_⟩;obtain⟨b,ha,h0⟩:=h.cell (j:=i*3+0) (v:=.int .i64 x) ((Wci hx (by omega)).trans rfl);obtain⟨b',ha',h1⟩:=h.cell (j:=i*3+1) (v:=.int .i64 y) ((Wci hx (by omega)).trans rfl);rw[ha]at ha';cases ha';obtain⟨b',ha',h2⟩:=h.cell (j:=i*3+2) (v:=.int .i64 z) ((Wci hx (by omega)).trans rfl);rw[ha]at ha';cases ha';refine⟨b,0,ha,Kn h0,?_,?_,?_⟩
 ·rw[show 0+i*3=i*3+0 by omega];exact h0
 ·rw[show 0+i*3+1=i*3+1 by omega];exact h1
 ·rw[show 0+i*3+2=i*3+2 by omega];exact h2
def Wau (s w:Int)(n:Nat):Int:=([4,3,2,1].take n).foldl (λ(r p:Int)=>if s<=p*256/\w*((p*256)%s)<=p*256 then p else r) 4
def Wfw (s:Int):Int:=min 32 (max 2 (512/s))
def mCls (s w:Int):T3:=(s,Wau s w 4,Wfw s)
def stF:Nat->Int->Int->Int
 | 0,d,_=>d
 | n+1,d,q=>if 2*d<=q then stF n (2*d) q else d
def Wil (s w:Int):Int:=stF 8 8 (s/w)
def mObj (x:T3):Int:=x.2.1*256/x.1
theorem Wig (s w:Int)(n:Nat):1<=Wau s w n/\Wau s w n<=4:=by
 have key:∀(l:List Int) (r:Int),(∀p∈l,1<=p/\p<=4)->1<=r/\r<=4->1<=l.foldl (λ(r p:Int)=>if s<=p*256/\w*((p*256)%s)<=p*256 then p else r) r/\l.foldl (λ(r p:Int)=>if s<=p*256/\w*((p*256)%s)<=p*256 then p else r) r<=4:=by
  intro l
  induction l with
  | nil=>intro r _ h;exact h
  | cons p l ih=>
   intro r hl hr;rw[zAC];refine ih _ (λq hq=>hl q (zAU _ hq)) ?_;split
   ·exact hl p zBC
   ·exact hr
 refine key _ _ (λp hp=>?_) (by omega);have:=zCN hp;simp at this;omega
theorem Wc2 (s w:Int)(h1:8<=s)(h2:s<=512)(hw1:2<=w)(hw2:w<=16){R:Int->Int->Int->Hp->Prop}(hR:∀σ',Ext0 U σ'->R (mCls s w).1 (mCls s w).2.1 (mCls s w).2.2 σ'):Xj.c s w U R:=by
 refine Xj.o ?_;unfold Xj.v;have hb0:1<=512/s/\512/s<=64:=⟨by rw[Int.le_ediv_iff_mul_le (by omega)];omega,Int.ediv_le_of_le_mul (by omega) (by omega)⟩;refine nw (cs:=[.int .i64 0,.int .i64 0,.int .i64 0]) λv hz e hb=>nz (by omega) (ar (by rw[Xn (by omega)];omega) (by rw[Xn (by omega)];omega) ?_);rw[Xn (by omega)];refine nw (cs:=[.int .i64 0,.int .i64 0,.int .i64 0]) λv1 hz1 e1 hb1=>hb1.s1 (by simp) λv2 o2 b2=>b2.s1 (by simp) λv3' o3 b3=>b3.s1 (by simp) λv4 o4 b4=>?_;have hne:U.size≠v.size:=by omega
 have hbv:=Ws o4 (Ws o3 (Ws o2 (e1.blk hb id) hne) hne) hne;have e4:Ext0 U v4:=((((e.trans e1).only o2 (.inr (by omega))).only o3 (.inr (by omega))).only o4 (.inr (by omega)));have hbat:(if 32<(if 2>512/s then 2 else 512/s)then 32 else(if 2>512/s then 2 else 512/s))=Wfw s:=by unfold Wfw;omega
 rw[hbat]at b4;refine ZD (a:=.i .i64) (λ(z:Int) u=>∃n:Nat,n<=4/\z=4-(n:Int)/\Ext0 U u/\Blk u U.size [.int .i64 0,.int .i64 0,.int .i64 0]/\Blk u v.size [.int .i64 s,.int .i64 (Wau s w n),.int .i64 (Wfw s)]) (λz _=>z.toNat) ⟨0,by omega,rfl,e4,hbv,b4⟩ ?_;rintro(z:Int) u ⟨n,hn,rfl,eu,hu,bu⟩;refine ifD (λhge=>?_) λhlt=>?_
 ·have hn3:n<4:=by omega
  have hsn:Wau s w (n+1)=if s<=(4-(n:Int))*256/\w*(((4-(n:Int))*256)%s)<=(4-(n:Int))*256 then 4-(n:Int)else Wau s w n:=by
   have ht:([4,3,2,1]:List Int)[n]?=some (4-(n:Int)):=by
    rcases(show n=0\/n=1\/n=2\/n=3 by omega)with rfl|rfl|rfl|rfl<;>rfl
   unfold Wau;rw[zAD,ht,zAE];rfl
  refine ar (by omega) (by omega) ?_;refine QM (λr u'=>u'=u/\r=decide (s<=(4-(n:Int))*256/\w*(((4-(n:Int))*256)%s)<=(4-(n:Int))*256)) (λr u' ⟨hu',hr⟩=>?_) λJ hJ=>?_
  ·subst hu';by_cases hc:s<=(4-(n:Int))*256/\w*(((4-(n:Int))*256)%s)<=(4-(n:Int))*256
   ·rw[zH hc]at hr;rw[zA hc]at hsn;refine ifT hr (bu.s1 (by simp) λu1 o1 b1=>ar (by omega) (by omega) ⟨⟨n+1,by omega,by omega,eu.only o1 (.inr (by omega)),Ws o1 hu hne,by rw[hsn];exact b1⟩,by omega⟩)
   ·rw[zJ hc]at hr;rw[zB hc]at hsn;exact ifF hr (ar (by omega) (by omega) ⟨⟨n+1,by omega,by omega,eu,hu,by rw[hsn];exact bu⟩,by omega⟩)
  ·have hm1:=Int.emod_nonneg ((4-(n:Int))*256) (show s≠0 by omega);have hm2:=Int.emod_lt_of_pos ((4-(n:Int))*256) (show 0<s by omega);have hm3:w*(((4-(n:Int))*256)%s)<=16*512:=Int.mul_le_mul hw2 (by omega) hm1 (by omega);have hm4:0<=w*(((4-(n:Int))*256)%s):=Int.mul_nonneg (by omega) hm1;refine ifD (λh1=>ar (by omega) (by omega) (nz (by omega) ?_)) λh1=>hJ _ _ ⟨rfl,(zJ λhx=>h1 hx.1).symm⟩;rw[QA (by omega)];refine ar (by omega) (by omega) (ar (by omega) (by omega) (hJ _ _ ⟨rfl,?_⟩));rw[decide_eq_decide];exact⟨λhx=>⟨h1,hx⟩,λhx=>hx.2⟩
 ·have hn4:n=4:=by omega
  subst hn4;refine bu.rI rfl (bu.rI rfl (bu.rI rfl (hu.s1 (by simp) λu1 o1 b1=>b1.s1 (by simp) λu2 o2 b2=>b2.s1 (by simp) λu3 o3 b3=>b3.rI rfl (b3.rI rfl (b3.rI rfl (hR u3 ?_))))));exact((eu.only o1 (.inr (by omega))).only o2 (.inr (by omega))).only o3 (.inr (by omega))
theorem Wkl (s w:Int)(h1:8<=s)(h2:s<=512)(hw1:2<=w){R:Int->Hp->Prop}(hR:8<=Wil s w->Wil s w<=256->R (Wil s w) U):XX.c s w U R:=by
 refine XX.o ?_;unfold XX.v;have hq:0<=s/w/\s/w<=256:=⟨Int.ediv_nonneg (by omega) (by omega),by
  have:s/w<=s/2:=by
   apply Int.le_ediv_of_mul_le (by omega);have:=Int.ediv_mul_le s (show w≠0 by omega);have h3:s/w*2<=s/w*w:=Int.mul_le_mul_of_nonneg_left hw1 (Int.ediv_nonneg (by omega) (by omega));omega
  omega⟩
 refine ZD (a:=.i .i64) (λ(d:Int) u=>u=U/\∃n:Nat,stF n d (s/w)=Wil s w/\8<=d/\d<=256/\512<=d*2^n) (λd _=>1000-d.toNat) ⟨rfl,8,rfl,by omega,by omega,by decide⟩ ?_;rintro(d:Int) u ⟨rfl,n,hst,hd1,hd2,hdn⟩;refine ar (by omega) (by omega) (nz (by omega) (ar (by rw[Xn (by omega)];omega) (by rw[Xn (by omega)];omega) ?_));rw[Xn (by omega)];cases n with
 | zero=>simp at hdn;omega
 | succ n=>
  refine ifD (λhle=>ar (by omega) (by omega) ⟨⟨rfl,n,?_,by omega,by omega,?_⟩,by omega⟩) λhgt=>?_
  ·rw[stF,zA hle]at hst;exact hst
  ·rw[Int.pow_succ]at hdn;have:2*d*2^n=d*(2^n*2):=by rw[Int.mul_comm 2 d,Int.mul_assoc,Int.mul_comm 2 (2^n)]
   omega
  ·rw[stF,zB hgt]at hst;rw[←hst]at hR;exact hR hd1 hd2
theorem WgJ (x:T3)(h1:8<=x.1)(h2:x.1<=512)(h3:1<=x.2.1)(h4:x.2.1<=4){R:Int->Hp->Prop}(hR:∀σ',Ext0 U σ'->R (mObj x) σ'):WS.c x.1 x.2.1 x.2.2 U R:=by
 refine WS.o ?_;unfold WS.v;refine nw (cs:=[.int .i64 x.1,.int .i64 x.2.1,.int .i64 x.2.2]) λv hz e hb=>?_;refine ZD (a:=.i .i64) (λ(n:Int) u=>Ext0 U u/\Blk u U.size [.int .i64 x.1,.int .i64 x.2.1,.int .i64 x.2.2]/\0<=n/\n<=128/\n*x.1<=x.2.1*256) (λn _=>1000-n.toNat) ⟨e,hb,by omega,by omega,by omega⟩ ?_;rintro(n:Int) u ⟨eu,bu,hn0,hn1,hn⟩;have hm:(n+1)*x.1<=129*512:=Int.mul_le_mul (by omega) h2 (by omega) (by omega);have hm0:0<=(n+1)*x.1:=Int.mul_nonneg (by omega) (by omega);refine ar (by omega) (by omega) (bu.rI rfl (ar (by omega) (by omega) (bu.rI rfl (ar (by omega) (by omega) ?_))));refine ifD (λhle=>ar (by omega) (by omega) ⟨⟨eu,bu,by omega,?_,hle⟩,by omega⟩) λhgt=>?_
 ·have:(n+1)*8<=(n+1)*x.1:=Int.mul_le_mul_of_nonneg_left h1 (by omega);omega
 ·have:mObj x=n:=by
   unfold mObj;have a1:n<=x.2.1*256/x.1:=(Int.le_ediv_iff_mul_le (by omega)).2 hn;have a2:x.2.1*256/x.1<n+1:=(Int.ediv_lt_iff_lt_mul (by omega)).2 (by omega);omega
  have h5:=hR u eu;rw[this]at h5;exact h5
def allF:Nat->Int->Int->List T3
 | 0,_,_=>[]
 | n+1,s,w=>if s<512 then mCls s w::allF n (s+Wil s w) w else[]
def allM (w:Int):List T3:=allF 64 8 w++[mCls 512 w]
def Wat (l:List T3)(i:Nat):Bool:=i==l.length-1||(match l[i]?,l[i+1]? with
 | some x,some y=>x.2.1 != y.2.1||mObj x != mObj y
 | _,_=>false)
def outM (l:List T3)(n:Nat):List T3:=(List.range n).filterMap λi=>if Wat l i then l[i]? else none
def WcM (w:Int):List T3:=outM (allM w) (allM w).length
def T3ok (x:T3):Prop:=8<=x.1/\x.1<=512/\1<=x.2.1/\x.2.1<=4
theorem WiN (s w:Int)(h1:8<=s)(h2:s<=512):T3ok (mCls s w):=⟨h1,h2,Wig s w 4⟩
theorem app3 {Q:Rg}{s:Sl}{l:List T3}{e1 e2:Nat}(ho:Own Q U s 3 (v3s l))(hQ:∀b,U.size<=b->Q b)(hl:l.length<=1000)(x:T3){K:Sl->Hp->Prop}(hK:∀s' σ',Ext Q U σ'->Own Q σ' s' 3 (v3s (l++[x]))->K s' σ') :
 Nw (.cells #[.int .i64 x.1,.int .i64 x.2.1,.int .i64 x.2.2] e1 (0,0)) U λn20 v3=>App s 3 24 e2 [.int .i64 0,.int .i64 0,.int .i64 0] ⟨some n20,1,1⟩ v3 K:=by
 have hsl:s.len=l.length:=by have:=ho.1;rw[Wee]at this;omega
 refine nw (cs:=v3 x) λv hz e hb=>?_;refine(ho.keep0 e).app (ys:=v3 x) (λb hb=>hQ b (by omega)) rfl rfl ?_ (by simp[v3,one1]) ?_ ?_ zBJ λs' v' _ e' h' _=>hK s' v' ?_ ?_
 ·intro j u hu;rw[add_lit,zI,hb.cell];exact hu
 ·simp only;have:(s.len+1)*24<=1001*24:=zAO (by omega) (by omega);omega
 ·simp only;omega
 ·exact(Ext0.to e).trans (e'.sub λb hb=>((ho.keep0 e).blk_lt hb).1)
 ·rw[WkW];exact h'
theorem Wkp (w:Int)(h:w<2\/16<w){R:Sl->Int->Hp->Prop}(hR:R ⟨none,0,0⟩ 1 U):WY.c w U R:=by
 refine WY.o ?_;unfold WY.v;exact JnB.intro (ifD (λh1=>ifT rfl hR) λh1=>ifT (zH (by omega)) hR)
theorem Wi4 (w:Int)(hw1:2<=w)(hw2:w<=16){R:Sl->Int->Hp->Prop}(hR:∀s' σ',Ext0 U σ'->Acts σ' s' (WcM w)->R s' 0 σ'):WY.c w U R:=by
 refine WY.o ?_;unfold WY.v;refine JnB.intro (ifDF (by omega) (ifF (zJ (by omega)) ?_));refine Vm (a:=.s) (bb:=.i .i64) (λ(all:Sl) (s:Int) u=>∃(n:Nat) (done:List T3),8<=s/\s<=768/\Ext0 U u/\Own (λb=>U.size<=b) u all 3 (v3s done)/\done++allF n s w=allF 64 8 w/\512<=s+8*(n:Int)/\(∀x∈done,T3ok x)/\done.length+n=64) (λ_ s _=>1000-s.toNat) ⟨64,[],by omega,by omega,Ext.refl _ _,Own.nil _ _ _,rfl,by omega,by simp,by simp⟩ ?_;rintro(all:Sl) (s:Int) u ⟨n,done,hs1,hs2,eu,ho,hdone,hn,hok,hlen⟩;refine ifD (λhlt=>?_) λhge=>?_
 ·obtain⟨n,rfl⟩:∃m,n=m+1:=⟨n-1,by omega⟩;refine Wc2 s w (by omega) (by omega) hw1 hw2 λv2 e2=>?_;refine app3 (ho.keep0 e2) (λb hb=>by have:=eu.1;have:=e2.1;omega) (by omega) (mCls s w) λall1 v4 e4 h4=>?_;have e04:Ext0 U v4:=Ext.newT (eu.trans e2) e4 λb hb=>.inr hb;refine Wkl s w (by omega) (by omega) hw1 λd1 d2=>ar (by omega) (by omega) ⟨⟨n,done++[mCls s w],by omega,by omega,e04,h4,?_,by omega,λx hx=>?_,by simp;omega⟩,by omega⟩
  ·rw[←hdone,zr]
   congr 1
   conv=>rhs;rw[allF,zA hlt]
   rfl
  ·rcases zS.1 hx with h1|h1
   ·exact hok x h1
   ·rw[zZ]at h1;subst h1;exact WiN s w (by omega) (by omega)
 ·have hnil:allF n s w=[]:=by
   cases n with
   | zero=>rfl
   | succ n=>rw[allF,zB hge]
  rw[hnil,zAA]at hdone;refine Wc2 512 w (by omega) (by omega) hw1 hw2 λv6 e6=>?_;refine app3 (ho.keep0 e6) (λb hb=>by have:=eu.1;have:=e6.1;omega) (by omega) (mCls 512 w) λall2 v8 e8 h8=>?_;have e08:Ext0 U v8:=Ext.newT (eu.trans e6) e8 λb hb=>.inr hb;rw[hdone]at h8;have hok8:∀x∈allM w,T3ok x:=λx hx=>by
   rcases zS.1 hx with h1|h1
   ·rw[←hdone]at h1;exact hok x h1
   ·rw[zZ]at h1;subst h1;exact WiN 512 w (by omega) (by omega)
  have hml:(allM w).length<=65:=by unfold allM;rw[←hdone];simp;omega
  have h8:Own (λb=>U.size<=b) v8 all2 3 (v3s (allM w)):=h8;generalize hall:allM w=l at h8 hok8 hml;have hmk:WcM w=outM l l.length:=by unfold WcM;rw[hall]
  have hl2:all2.len=l.length:=by have:=h8.1;rw[Wee]at this;omega
  refine Vm (a:=.s) (bb:=.i .i64) (λ(out:Sl) (z:Int) u=>∃i:Nat,z=(i:Int)/\i<=l.length/\Ext0 v8 u/\Own (λb=>v8.size<=b) u out 3 (v3s (outM l i))/\(outM l i).length<=i) (λ_ z _=>l.length-z.toNat) ⟨0,rfl,by omega,Ext.refl _ _,Own.nil _ _ _,by simp[outM]⟩ ?_;rintro(out:Sl) (z:Int) u ⟨i,rfl,hi,eu8,hout,hol⟩;refine ifD (λhlt=>?_) λhge=>?_
  ·have hi':i<l.length:=by omega
   have hx:l[i]?=some l[i]:=gGe hi';generalize l[i]=x at hx;have hxo:=hok8 x (zE hx);have hsn:outM l (i+1)=outM l i++(if Wat l i then[x]else[]):=by
    unfold outM;rw[zt,zDX]
    congr 1
    by_cases hk:Wat l i=true
    ·simp[hk,hx]
    ·simp[hk]
   have hA:∀m,Ext0 u m->Acts m all2 l:=λm em=>We5 (h8.keep0 (eu8.trans em));refine Wnl (λr u'=>Ext0 u u'/\r=Wat l i) (λr u' ⟨eu',hr⟩=>?_) λJ3 hJ3=>?_
   ·have hou:=hout.keep0 eu';cases hk:Wat l i with
    | true=>
     rw[hk]at hr hsn;refine ifT hr (Wct (hA u' eu') hx ?_);refine app3 hou (λb hb=>by have:=eu8.1;have:=eu'.1;omega) (by omega) x λout1 v12 e12 h12=>?_;refine arN (m:=i+1) (by omega) (by omega) ⟨⟨i+1,rfl,by omega,Ext.newT (eu8.trans eu') e12 λb hb=>.inr hb,?_,?_⟩,by omega⟩
     ·rw[hsn];exact h12
     ·rw[hsn];simp;omega
    | false=>
     rw[hk]at hr hsn;refine ifF hr (arN (m:=i+1) (by omega) (by omega) ⟨⟨i+1,rfl,by omega,eu8.trans eu',?_,?_⟩,by omega⟩)
     ·rw[hsn];simpa using hou
     ·rw[hsn];simp;omega
   ·refine⟨λm=>Ext0 u m,Ext.refl _ _,ar (by omega) (by omega) ?_⟩;refine iff_ (λhlast=>hJ3 _ _ ⟨Ext.refl _ _,?_⟩) λhnl=>?_
    ·have:i=l.length-1:=by simp only[zY]at hlast;omega
     unfold Wat;rw[this];simp
    ·have hi2:i+1<l.length:=by simp only[zw]at hnl;omega
     have hy:l[i+1]?=some l[i+1]:=gGe hi2;generalize l[i+1]=y at hy;have hyo:=hok8 y (zE hy);have hkp:Wat l i=(x.2.1 != y.2.1||mObj x != mObj y):=by
      unfold Wat;rw[hx,hy];have:(i==l.length-1)=false:=by simp only[zw];omega
      rw[this];rfl
     have hcx:=λ(m:Hp) (em:Ext0 u m)=>(hA m em).2 i x.1 x.2.1 x.2.2 hx;have hcy:=λ(m:Hp) (em:Ext0 u m)=>(hA m em).2 (i+1) y.1 y.2.1 y.2.2 hy;obtain⟨b,o,ha,_,_⟩:=hcx u (Ext.refl _ _);have rx:∀m,Ext0 u m->cell m ⟨b,o+i*3,none⟩=some (.int .i64 x.1)/\cell m ⟨b,o+i*3+1,none⟩=some (.int .i64 x.2.1)/\cell m ⟨b,o+i*3+2,none⟩=some (.int .i64 x.2.2):=λm em=>by
      obtain⟨b',o',ha',_,h⟩:=hcx m em;rw[ha]at ha';cases ha';exact h
     have ry:∀m,Ext0 u m->cell m ⟨b,o+(i+1)*3,none⟩=some (.int .i64 y.1)/\cell m ⟨b,o+(i+1)*3+1,none⟩=some (.int .i64 y.2.1)/\cell m ⟨b,o+(i+1)*3+2,none⟩=some (.int .i64 y.2.2):=λm em=>by
      obtain⟨b',o',ha',_,h⟩:=hcy m em;rw[ha]at ha';cases ha';exact h
     have ixx:∀{K:Addr->Prop},K ⟨b,o+i*3,none⟩->Ix all2.a all2.len (i:Int) 3 K:=λhK=>by
      rw[ha];exact ix (by omega) (by omega) (by rw[add_lit,iTn];exact hK)
     have ixy:∀{K:Addr->Prop},K ⟨b,o+(i+1)*3,none⟩->Ix all2.a all2.len ((i+1:Nat):Int) 3 K:=λhK=>by
      rw[ha];exact ix (by omega) (by omega) (by rw[add_lit,iTn];exact hK)
     refine ixx ⟨x.2.1,λm em=>by rw[add_lit];exact(rx m em).2.1,arN (m:=i+1) (by omega) (by omega) (ixy ⟨y.2.1,λm em=>by rw[add_lit];exact(ry m em).2.1,?_⟩)⟩;refine iff_ (λhp=>hJ3 _ _ ⟨Ext.refl _ _,by rw[hkp,hp];rfl⟩) λhp=>?_;refine ixx ⟨x.1,λm em=>by rw[add_lit];exact(rx m em).1,⟨x.2.1,λm em=>by rw[add_lit];exact(rx m em).2.1,⟨x.2.2,λm em=>by rw[add_lit];exact(rx m em).2.2,?_⟩⟩⟩;refine arN (m:=i+1) (by omega) (by omega) (ixy ⟨y.1,λm em=>by rw[add_lit];exact(ry m em).1,⟨y.2.1,λm em=>by rw[add_lit];exact(ry m em).2.1,⟨y.2.2,λm em=>by rw[add_lit];exact(ry m em).2.2,?_⟩⟩⟩);refine WgJ x hxo.1 hxo.2.1 hxo.2.2.1 hxo.2.2.2 λv13 e13=>⟨e13,WgJ y hyo.1 hyo.2.1 hyo.2.2.1 hyo.2.2.2 λv14 e14=>⟨e13.trans e14,hJ3 _ _ ⟨e13.trans e14,by rw[hkp,hp];rfl⟩⟩⟩
  ·have hil:i=l.length:=by omega
   subst hil;refine hR out u (e08.trans eu8) ?_;rw[hmk];exact We5 hout
theorem Wbt:∀w:Nat,2<=w->w<=16->Qr (WcM (w:Int))=true:=by
 have h:((List.range 17).all λw=>decide (w<2)||Qr (WcM (w:Int)))=true:=by decide +kernel
 intro w h1 h2;have:=zu.1 h w (zb.2 (by omega));simp only[zAT,zQ]at this;exact this.resolve_left (by omega)
end Go.Ar
namespace Go.Proofs
open Go.Shelf
def Tryz.sortFL_ren:Go.Shelf.Ren:=⟨fun|6=>229|15=>141|14=>263|28=>209|29=>210|20=>283|21=>284|22=>285|23=>286|24=>287|25=>288|26=>289|27=>290|46=>296|47=>245|48=>246|49=>297|50=>298|57=>300|n=>n,fun|22=>112|24=>119|25=>311|3=>3|39=>219|0=>0|53=>290|55=>86|4=>4|46=>284|45=>283|50=>266|5=>5|9=>9|66=>324|70=>328|76=>351|77=>352|n=>n,fun|n=>n⟩
theorem Tryz.sortFL:Go.Proofs.SlLaysF0.n6 Tryz.prog Tryz.sortFL_ren:={
 mixed:=by kernel_rfl
 f6:=⟨Tryz.f229.name,by decide,Tryz.func229.trans (congrArg some (by kernel_rfl))⟩
 f14:=⟨Tryz.f263.name,by decide,Tryz.func263.trans (congrArg some (by kernel_rfl))⟩
 f15:=Tryz.func141.trans (congrArg some (by kernel_rfl))
 f20:=⟨Tryz.f283.name,by decide,Tryz.func283.trans (congrArg some (by kernel_rfl))⟩
 f21:=⟨Tryz.f284.name,by decide,Tryz.func284.trans (congrArg some (by kernel_rfl))⟩
 f22:=⟨Tryz.f285.name,by decide,Tryz.func285.trans (congrArg some (by kernel_rfl))⟩
 f23:=⟨Tryz.f286.name,by decide,Tryz.func286.trans (congrArg some (by kernel_rfl))⟩
 f24:=⟨Tryz.f287.name,by decide,Tryz.func287.trans (congrArg some (by kernel_rfl))⟩
 f25:=⟨Tryz.f288.name,by decide,Tryz.func288.trans (congrArg some (by kernel_rfl))⟩
 f26:=⟨Tryz.f289.name,by decide,Tryz.func289.trans (congrArg some (by kernel_rfl))⟩
 f27:=⟨Tryz.f290.name,by decide,Tryz.func290.trans (congrArg some (by kernel_rfl))⟩
 f28:=Tryz.func209.trans (congrArg some (by kernel_rfl))
 f29:=Tryz.func210.trans (congrArg some (by kernel_rfl))
 f46:=⟨Tryz.f296.name,by decide,Tryz.func296.trans (congrArg some (by kernel_rfl))⟩
 f47:=Tryz.func245.trans (congrArg some (by kernel_rfl))
 f48:=Tryz.func246.trans (congrArg some (by kernel_rfl))
 f49:=⟨Tryz.f297.name,by decide,Tryz.func297.trans (congrArg some (by kernel_rfl))⟩
 f50:=⟨Tryz.f298.name,by decide,Tryz.func298.trans (congrArg some (by kernel_rfl))⟩
 f57:=⟨Tryz.f300.name,by decide,Tryz.func300.trans (congrArg some (by kernel_rfl))⟩
 t0:=Tryz.underlying0
 a0:=Tryz.isAgg0
 z0:=Tryz.sizeOf0
 v0:=Tryz.zeroValue0
 t3:=Tryz.underlying3
 a3:=Tryz.isAgg3
 z3:=Tryz.sizeOf3
 v3:=Tryz.zeroValue3
 t4:=Tryz.underlying4
 a4:=Tryz.isAgg4
 z4:=Tryz.sizeOf4
 v4:=Tryz.zeroValue4
 t5:=Tryz.underlying5
 a5:=Tryz.isAgg5
 z5:=Tryz.sizeOf5
 v5:=Tryz.zeroValue5
 t9:=Tryz.underlying9
 a9:=Tryz.isAgg9
 z9:=Tryz.sizeOf9
 v9:=Tryz.zeroValue9
 t22:=Tryz.underlying112
 a22:=Tryz.isAgg112
 z22:=Tryz.sizeOf112
 v22:=Tryz.zeroValue112
 t25:=Tryz.underlying311
 a25:=Tryz.isAgg311
 z25:=Tryz.sizeOf311
 v25:=Tryz.zeroValue311
 t39:=Tryz.underlying219
 a39:=Tryz.isAgg219
 z39:=Tryz.sizeOf219
 v39:=Tryz.zeroValue219
 t45:=Tryz.underlying283
 a45:=Tryz.isAgg283
 z45:=Tryz.sizeOf283
 v45:=Tryz.zeroValue283
 t46:=Tryz.underlying284
 a46:=Tryz.isAgg284
 z46:=Tryz.sizeOf284
 v46:=Tryz.zeroValue284
 t50:=Tryz.underlying266
 a50:=Tryz.isAgg266
 z50:=Tryz.sizeOf266
 v50:=Tryz.zeroValue266
 t53:=Tryz.underlying290
 a53:=Tryz.isAgg290
 z53:=Tryz.sizeOf290
 v53:=Tryz.zeroValue290
 t55:=Tryz.underlying86
 a55:=Tryz.isAgg86
 z55:=Tryz.sizeOf86
 v55:=Tryz.zeroValue86
 t66:=Tryz.underlying324
 a66:=Tryz.isAgg324
 z66:=Tryz.sizeOf324
 v66:=Tryz.zeroValue324
 t70:=Tryz.underlying328
 a70:=Tryz.isAgg328
 z70:=Tryz.sizeOf328
 v70:=Tryz.zeroValue328
 t76:=Tryz.underlying351
 a76:=Tryz.isAgg351
 z76:=Tryz.sizeOf351
 v76:=Tryz.zeroValue351
 t77:=Tryz.underlying352
 a77:=Tryz.isAgg352
 z77:=Tryz.sizeOf352
 v77:=Tryz.zeroValue352}
end Go.Proofs
namespace Go.Ar
open Go Go.Vc Go.Proofs Go.RowKit Go.Sort Go.Shelf Go.Lib
abbrev BtK:=Fin 64×Sl
instance:Inhabited BtK:=⟨(0,⟨none,0,0⟩)⟩
def encB (x:BtK):List Value:=[.int .i64 (x.1.val:Int),.slice x.2.a x.2.len x.2.cap]
def cfB (x y:BtK):Int:=(x.1.val:Int)-(y.1.val:Int)
theorem cmpB (x y:BtK)(W:World):Calls Tryz.prog 230 #[.agg #[.int .i64 (x.1.val:Int),.slice x.2.a x.2.len x.2.cap],.agg #[.int .i64 (y.1.val:Int),.slice y.2.a y.2.len y.2.cap]] W λe w'=>e=.returned (.int .i64 (cfB x y))/\∃q os',w'=grow (W.drewN q) os':=by
 have hw:IntKind.i64.wrap ((x.1.val:Int)-(y.1.val:Int))=cfB x y:=by
  have h1:=x.1.isLt;have h2:=y.1.isLt;unfold cfB;exact UF (by omega) (by omega)
 go_enter Tryz.func230,Tryz.ntmps230
 go_wp2
 go_ret
 exact⟨rfl,0,_,by rw[alloc_eq_grow,alloc_eq_grow,grow_grow];rfl⟩
theorem swoB:SWO (ltOf cfB) where
 irrefl x:=by simp[ltOf,cfB]
 trans x y z h1 h2:=by
  have h1:=zCQ h1;have h2:=zCQ h2;unfold cfB at h1 h2;exact zH (by unfold cfB;omega)
 ntrans x y z h1 h2:=by
  have h1:=zFN h1;have h2:=zFN h2;unfold cfB at h1 h2;exact zJ (by unfold cfB;omega)
def unK (x:BtK):Nat×Sl:=(x.1.val,x.2)
theorem flB (l:List BtK)(j:Nat)(hj:j<l.length*2):(btsV (l.map unK))[j]?=some (flatK encB 2 l.toArray)[j]! := by
 rw[get_flatK _ _ _ _ (by simpa using hj)];have hi:j/2<l.length:=by omega
 have e1:l.toArray[j/2]! = l[j/2]:=by rw[getElem!_pos _ _ (by simpa using hi)];simp
 have hg:(l.map unK)[j/2]?=some (unK l[j/2]):=by simp[hi]
 have:=Wki hg (d:=j%2) (by omega);rw[show 2*(j/2)+j%2=j by omega]at this;rw[this,e1];have hd:j%2=0\/j%2=1:=by omega
 rcases hd with h|h<;>rw[h]<;>rfl
theorem Wcb:UZ:=by
 intro U F s xs hrow hk hlen R hR;rintro w rfl;have hsl:s.len=xs.length:=by have:=hrow.1;rw[KD]at this;omega
 rcases hrow.2 with⟨h0,hc0⟩|⟨b,cs,hF,ha,hb,hle,hcl,ht⟩
 ·have hxs:xs=[]:=zFH.1 (by omega);have:=AnyF.slices_SortFunc_none Tryz.sortFL s.a s.cap (.func (.func 230) #[] #[]) w;show Calls _ _ #[.slice s.a s.len s.cap,.func (.func 230) #[] #[]] w _;rw[h0];refine this.mono ?_;rintro e w' ⟨rfl,rfl⟩;subst hxs;exact⟨.refl _,[],rfl,hR [] _ (.refl _) List.Pairwise.nil (Ext.refl _ _) hrow⟩
 ·have hlt:∀x∈xs,x.1<64:=hk
  let toK:Nat×Sl->BtK:=λx=>(Fin.ofNat 64 x.1,x.2)
  have hun:(xs.map toK).map unK=xs:=by
   rw[zAS]
   conv=>rhs;rw[←zDS xs]
   apply zy;intro x hx;simp only[Function.comp,toK,unK,Fin.ofNat,id];rw[zDI (hlt x hx)]
  have hdl:(xs.map toK).length=xs.length:=by simp
  generalize xs.map toK=l at hun hdl;have hbl:=hb.lt;have hH:HoldsK encB 2 w b 0 l.toArray:=by
   intro j hj;simp only[size_flatK,zFM]at hj;have hc:Vc.cell w.heap ⟨b,0+j,none⟩=some (flatK encB 2 l.toArray)[j]! := by
    rw[hb.cell,zI,←flB l j hj,hun];rw[←ht,zX,zA (by rw[KD];omega)]
   exact⟨hc,hb.frz⟩
  have eg:∀args w,(callFunc 230 args).run Tryz.prog w=.ok (.enter 230 args) w:=enters_of Tryz.func230 (by kernel_rfl) rfl;have hagg:∀w,(isAgg (Tryz.sortFL_ren.t 24)).run Tryz.prog w=.ok true w:=λw=>by
   have h:=KJ (P:=Tryz.prog) (t:=Tryz.sortFL_ren.t 24) (d:=(Tryz.prog.underlying (Tryz.sortFL_ren.t 24)).getD .bool) (by kernel_rfl) w
   rwa [show Ud ((Tryz.prog.underlying (Tryz.sortFL_ren.t 24)).getD .bool)=true by kernel_rfl]at h
  have hsz:∀w,(Go.sizeOf (Tryz.sortFL_ren.t 24)).run Tryz.prog w=.ok 2 w:=λw=>by
   have h:=QU (P:=Tryz.prog) (t:=Tryz.sortFL_ren.t 24) (by kernel_rfl) w
   rwa [show Tryz.prog.cellsOf (Tryz.sortFL_ren.t 24)=2 by kernel_rfl]at h
  have hcon:=AnyQ.slices_SortFunc Tryz.sortFL 2 hagg hsz encB (λ_=>rfl) (λx v hv=>by simp only[encB,zR,List.not_mem_nil,or_false]at hv;rcases hv with rfl|rfl<;>rfl) cfB swoB 230 #[] b 0 s.cap l.toArray w eg (λ_ _ _ _ x y=>cmpB x y _) hH hbl (by simp only[zFM];omega)
  show Calls _ _ #[.slice s.a s.len s.cap,.func (.func 230) #[] #[]] w _;rw[ha,show s.len=l.toArray.size by simp only[zFM];omega];refine hcon.mono ?_;rintro e w' ⟨rfl,d',n,os,hp,hso,rfl⟩;have hds:d'.size=l.length:=by simpa using hp.1
  have hperm:d'.toList.Perm l:=by
   have h3:=hp.2.2;rw[show l.toArray.size=d'.size by simp[hds]]at h3;have e1:(d'.extract 0 d'.size)=d':=by simp
   have e2:(l.toArray.extract 0 d'.size)=l.toArray:=by rw[hds];simp
   rw[e1,e2]at h3;simpa using h3
  obtain⟨ty,hob⟩:=hb;have hheap:(sortWorldK encB 2 w b 0 n d' os).heap=(w.heap.modify b (onCells (putCells id 0 (flatK encB 2 d'))))++os:=rfl;have hsm:(w.heap.modify b (onCells (putCells id 0 (flatK encB 2 d')))).size=w.heap.size:=by simp
  refine⟨⟨rfl,rfl,rfl,by rw[hheap,Array.size_append,hsm];omega⟩,[],rfl,?_⟩;rw[hheap];have hext:Ext F w.heap ((w.heap.modify b (onCells (putCells id 0 (flatK encB 2 d'))))++os):=by
   refine⟨by rw[Array.size_append,hsm];omega,λq hq hf=>?_⟩;rw[zFV (by rw[hsm];exact hq),zEU,zB λ(e:b=q)=>hf (by rw[←e];exact hF)]
  refine hR (d'.toList.map unK) _ ?_ ?_ hext ⟨?_,.inr ⟨b,(putCells id 0 (flatK encB 2 d') cs.toArray).toList,hF,ha,⟨ty,?_⟩,hle,?_,?_⟩⟩
  ·rw[←hun];exact hperm.map _
  ·rw[zDA];rw[zv];intro i j hi hj hij;have h1:=hso i j (by omega) hij (by simp only[zDW]at hj;simp only[zFM];omega);rw[getElem!_pos d' i (by simpa using hi),getElem!_pos d' j (by simpa using hj)]at h1;have h1:=zFN h1;unfold cfB at h1;simp only[unK,Array.getElem_toList];omega
  ·rw[KD,zi,zDW,hds];omega
  ·rw[zFV (by rw[hsm];exact hbl),zEU,zA rfl,hob];simp[onCells]
  ·simp[putCells,hcl]
  ·rw[KD,zi,zDW,hds];apply zn;intro j;rw[zX];by_cases hj:j<l.length*2
   ·rw[zA hj,flB d'.toList j (by simpa[hds]using hj)];have hjc:j<cs.length:=by
     have:l.length*2<=s.cap*2:=zAH _ (by omega);omega
    simp only[putCells,zEN,Array.getElem?_mapIdx,List.getElem?_toArray,gGe hjc,zc];rw[zA ⟨by omega,by rw[size_flatK,hds];omega⟩];simp
   ·rw[zB hj,zW (by rw[KD,zi,zDW,hds];omega)]
end Go.Ar
namespace Go.Proofs
open Go.Vc
set_option maxRecDepth 100000
def XV.h:Hn:=.q .o1 (.q .o5 .l)
def XV.v (a:Sl)(b:Int)(c:Hp)(d:Bool->Hp->Prop):Prop:=d (decide (((a.len:Nat):Int)>b)) c
theorem XV.o {a b c d}(e:XV.v a b c d):XV.c a b c d:=Wa Tryz.func20 (x:=XV.h) (R0 e)
def YV.h:Hn:=.q .o2 (.q (.q (.reg (.seq [.op,.op,.op,.op,.grd false 3 (RI.ops 3)])) (.c (.q .o3 .l) .l)) (.q (.oq 12) .l))
def YV.v (a:Sl)(b c d e f g h:Int)(i:ByteArray)(j:Hp)(k:Int->Hp->Prop):Prop:=Nw (.cells #[.I b,.I c,.I d,.I e,.I f,.I g,.I h,.string i] 54 (0,0)) j λl m=>LdI .i64 (l.add 4) m λn=>JnB (λo p=>If o (LdI .i64 (l.add 5) p λq=>k q p) (LdI .i64 (l.add 4) p λr=>Nz ((a.len:Nat):Int) <| Ix a.a a.len (r.tmod ((a.len:Nat):Int)) 1 λs=>LdI .i64 s p λt=>LdI .i64 (l.add 5) p λu=>Ar .i64 (t+u) λv=>k v p)) λw=>If (n<0) (w true m) (w (((a.len:Nat):Int)==0) m)
theorem YV.o {a b c d e f g h i j k}(l:YV.v a b c d e f g h i j k):YV.c a b c d e f g h i j k:=Wa Tryz.func22 (x:=YV.h) (R0 l)
def YX.h:Hn:=.q .o4 (.q .o4 (.q (.q .o2 (.k (.q .o2 (.c (.q (.o 13) (.q .o6 .l)) (.q .o2 (.c (.q .o8 .l) (.q .o2 (.c (.q .o7 .l) (.q .o2 (.c (.q .o8 .l) (.q .o2 (.c (.q .o8 (.q .o5 .l)) (.q .o2 (.c (.q (.o 12) .l) (.q .o2 (.c (.q .o9 .l) (.q .o2 (.c (.q (.o 12) (.q (.q (.reg (.seq [.op,.op,.op,.grd false 2 [.op,.op]])) (.c (.q .o4 .l) .l)) (.q (.oq 10) .l))) (.q .o2 (.c (.q .o9 (.q .o5 .l)) (.q .o2 (.c (.q .o5 .l) (.q .o2 (.c .o2 .l)))))))))))))))))))))))) (.q .o3 .l)))
def YX.v (a:R2)(b:Sl)(c d e f g h i:Int)(j:ByteArray)(k:Hp)(l:Int->Int->Int->Hp->Prop):Prop:=Nw (.cells #[.I c,.I d,.I e,.I f,.I g,.I h,.I i,.string j] 54 (0,0)) k λm n=>LdI .i64 (m.add 0) n λo=>LdI .i64 (m.add 1) n λp=>LdI .i64 (m.add 2) n λq=>LdI .i64 (m.add 3) n λr=>LdI .i64 (m.add 4) n λs=>LdI .i64 (m.add 5) n λt=>LdI .i64 (m.add 6) n λu=>LdT (m.add 7) n λv=>YV.c b o p q r s t u v n λw x=>LdI .i64 (m.add 0) x λy=>If (y==0) (LdI .i64 (m.add 1) x λz=>LdI .i64 (m.add 2) x λaa=>LdI .i64 (m.add 3) x λab=>Xp.c a z aa ab x λac ad ae=>l ac ad ac ae) (If (y==1) (LdI .i64 (m.add 1) x λaf=>YR.c a af w x λag ah=>l 0 ag 0 ah) (If (y==2) (LdI .i64 (m.add 1) x λai=>Zf.c a ai x λaj ak=>l 0 aj 0 ak) (If (y==3) (LdI .i64 (m.add 6) x λal=>XJ.c a w al x λam an=>l 0 am 0 an) (If (y==4) (W9.c a w x λao ap aq=>l ao ap 0 aq) (If (y==5) (LdI .i64 (m.add 1) x λar=>LdI .i64 (m.add 2) x λau=>LdI .i64 (m.add 3) x λav=>Yg.c a ar 0 au av 0 x λaw ax=>l 0 aw 0 ax) (If (y==6) (LdI .i64 (m.add 1) x λay=>Yg.c a ay 1 0 0 w x λaz a0=>l 0 az 0 a0) (If (y==7) (LdI .i64 (m.add 1) x λa1=>XA.c a a1 x λa2 a3 a4 a5 a6=>Nw (.cells #[.I 0,.I 0] 97 (0,0)) a6 λa7 a8=>St1 (a7.add 0) (.I a3) a8 λa9=>St1 (a7.add 1) (.I a4) a9 λba=>JnB (λbb bc=>If bb (l 0 a5 0 bc) (LdI .i64 (a7.add 0) bc λbd=>LdI .i64 (a7.add 1) bc λbe=>Ar .i64 (100+be) λbf=>LdI .i64 (a7.add 0) bc λbg=>l bd bf bg bc)) λbh=>If (a5 != 0) (bh true ba) (bh (!a2) ba)) (If (y==8) (LdI .i64 (m.add 2) x λbi=>
 Yn.c a bi x λbj bk bl=>l bj bk 0 bl) (If (y==9) (Zo.c a x λbm bn=>l bm 0 0 bn) (If (y==10) (Zq.c a x λbo=>l 0 0 0 bo) (l 0 0 0 x)))))))))))
theorem YX.o {a b c d e f g h i j k l}(m:YX.v a b c d e f g h i j k l):YX.c a b c d e f g h i j k l:=Wa Tryz.func24 (x:=YX.h) (R0 m)
def Xz.h:Hn:=.q .o1 (.q .o4 .l)
def Xz.v (a:Hp)(b:Option Addr->Hp->Prop):Prop:=Wu.c 8 64 1 1 1024 2 a λc d=>b c d
theorem Xz.o {a b}(c:Xz.v a b):Xz.c a b:=Wa Tryz.func45 (x:=Xz.h) (R0 c)
def WR.h:Hn:=.q .o2 (.q .o5 .l)
def WR.v (a b c d e f:Int)(g:Hp)(h:Bool->Hp->Prop):Prop:=Nw (.cells #[.I a,.I b,.I c,.I d,.I e,.I f] 46 (0,0)) g λi j=>LdI .i64 ((i.add 1).add 0) j λk=>h (decide (k>128)) j
theorem WR.o {a b c d e f g h}(i:WR.v a b c d e f g h):WR.c a b c d e f g h:=Wa Tryz.func46 (x:=WR.h) (R0 i)
def Wu.h:Hn:=.q .o2 (.q .o8 (.q .o9 (.q (.q .o2 (.c (.q .o1 .l) .l)) (.q .o2 .l))))
def Wu.v (a b c d e f:Int)(g:Hp)(h:Option Addr->Hp->Prop):Prop:=Nw (.cells #[.I a,.I b,.I c,.I d,.I e,.I f] 46 (0,0)) g λi j=>LdI .i64 (i.add 0) j λk=>WY.c k j λl m n=>LdI .i64 ((i.add 1).add 0) n λo=>LdI .i64 ((i.add 1).add 1) n λp=>LdI .i64 ((i.add 1).add 2) n λq=>LdI .i64 ((i.add 1).add 3) n λr=>LdI .i64 ((i.add 1).add 4) n λs=>Kz.c l o p q r s n λt u v=>If (u != 0) (h none v) (h t v)
theorem Wu.o {a b c d e f g h}(i:Wu.v a b c d e f g h):Wu.c a b c d e f g h:=Wa Tryz.func47 (x:=Wu.h) (R0 i)
end Go.Proofs
namespace Go.Ar
open Go Go.Vc Go.Proofs
variable {U w w':Hp}{F P Q:Rg}{L:LayH}{H H':Hw}{held:List Pc}{s0:Sp}{t n:Nat}{g:Th}
structure Deed where
 kd:Int
 th:Int
 a:Int
 b:Int
 of:Int
 pl:Int
 va:Int
 s:ByteArray
def WdF (d:Deed):List Value:=[.int .i64 d.kd,.int .i64 d.th,.int .i64 d.a,.int .i64 d.b,.int .i64 d.of,.int .i64 d.pl,.int .i64 d.va,.string d.s]
def I64 (x:Int):Prop:=-9223372036854775808<=x/\x<=9223372036854775807
structure DeedI (d:Deed):Prop where
 a:I64 d.a
 b:I64 d.b
 pl:I64 d.pl
 va:I64 d.va
structure Deeds (U:Hp) (sl:Sl) (ds:List Deed):Prop where
 len:sl.len=ds.length
 at_:∀(i:Nat) (d:Deed),ds[i]?=some d->∃b o,sl.a=some ⟨b,o,none⟩/\b<U.size/\∀(j:Nat) v,(WdF d)[j]?=some v->cell U ⟨b,o+i*8+j,none⟩=some v
 i:∀d∈ds,DeedI d
 big:ds.length<=9223372036854775807
theorem Deeds.keep0 {sl:Sl}{ds:List Deed}(h:Deeds U sl ds)(e:Ext0 U w):Deeds w sl ds:=⟨h.len,λi d hx=>by
 obtain⟨b,o,ha,hb,hc⟩:=h.at_ i d hx;exact⟨b,o,ha,by have:=e.1;omega,λj v hv=>by rw[Ki e hb id];exact hc j v hv⟩,h.i,h.big⟩
theorem Deeds.rd {sl:Sl}{ds:List Deed}(h:Deeds U sl ds)(e:Ext0 U w){i:Nat}{d:Deed}(hx:ds[i]?=some d){K:Addr->Prop}(hK:∀b o,(∀w',Ext0 U w'->∀(j:Nat) v,(WdF d)[j]?=some v->cell w' ⟨b,o+j,none⟩=some v)->K ⟨b,o,none⟩):Ix sl.a sl.len (i:Int) 8 K:=by
 obtain⟨b,o,ha,hb,hc⟩:=h.at_ i d hx;have hl:=(gSi.1 hx).1;have hlen:=h.len;rw[ha];refine ix (by omega) (by omega) ?_;rw[add_lit,iTn];exact hK b _ λw' e' j v hv=>by rw[Ki e' hb id];exact hc j v hv
theorem ldT0 {b o i:Nat}{h:Hp}{x:ByteArray}{K:ByteArray->Prop}(hc:cell h ⟨b,o+i,none⟩=some (.string x))(hK:K x):LdT (Addr.add ⟨b,o,none⟩ i) h K:=⟨x,by rw[add_lit];exact hc,hK⟩
theorem _root_.Go.Vc.Blk.rT {b o i:Nat}{cs:List Value}(hb:Blk U b cs){x:ByteArray}{K:ByteArray->Prop}(hc:cs[o+i]?=some (.string x))(hK:K x):LdT (Addr.add ⟨b,o,none⟩ i) U K:=⟨x,by rw[add_lit,hb.cell];exact hc,hK⟩
def atV (ad:List Int)(d:Deed):Int:=if d.of<0\/ad=[]then d.pl else IntKind.i64.wrap (ad.getD (d.of.toNat%ad.length) 0+d.pl)
theorem Wom {ad:List Int}{d:Deed}(h:DeedI d):I64 (atV ad d):=by
 unfold atV;split
 ·exact h.pl
 ·exact Wjl _
theorem Wod {addrs:Sl}{ad:List Int}(hs:SlR addrs 1 (Wx ad) U F)(d:Deed){R:Int->Hp->Prop}(hR:∀σ',Ext0 U σ'->R (atV ad d) σ'):YV.c addrs d.kd d.th d.a d.b d.of d.pl d.va d.s U R:=by
 refine YV.o ?_;unfold YV.v;have hl:addrs.len=ad.length:=by have:=hs.1;simp[Wx]at this;omega
 refine nw (cs:=WdF d) λv hz e hb=>hb.rI rfl (QM (λr w=>w=v/\r=decide (d.of<0\/ad=[])) (λr w ⟨hw,hr⟩=>?_) λJ hJ=>ifD (λh1=>hJ _ _ ⟨rfl,by rw[zH (.inl h1)]⟩) λh1=>hJ _ _ ⟨rfl,?_⟩)
 ·subst hw;have hR1:=hR w e;by_cases hc:d.of<0\/ad=[]
  ·refine ifT (by rw[hr];exact zH hc) (hb.rI rfl ?_);unfold atV at hR1;rw[zA hc]at hR1;exact hR1
  ·have hpos:0<ad.length:=zCA.2 λh=>hc (.inr h);refine ifF (by rw[hr];exact zJ hc) (hb.rI rfl (nz (by omega) ?_));have h0:0<=d.of:=by omega
   have hm:d.of.tmod (addrs.len:Int)=((d.of.toNat%ad.length:Nat):Int):=by
    rw[QA h0,hl,Int.natCast_emod,Int.toNat_of_nonneg h0]
   rw[hm];have hlt:d.of.toNat%ad.length<ad.length:=zCR _ hpos;have hg:ad[d.of.toNat%ad.length]?=some ad[d.of.toNat%ad.length]:=gGe hlt;refine(SlR.loc _ _ _ |>.keep0 ((SlR.loc _ _ _).cut hs) e).ixI hg (hb.rI rfl (arW ?_));unfold atV at hR1;rw[zB hc,zL,hg]at hR1;exact hR1
 ·rw[hl];rw[zBH];simp only[zY,zQ];constructor
  ·intro h;exact .inr (zFH.1 (by omega))
  ·rintro(h|h)
   ·exact(h1 h).elim
   ·rw[h];rfl
theorem WmW {l:Sl}{most:Int}{R:Bool->Hp->Prop}(hR:R (decide ((l.len:Int)>most)) U):XV.c l most U R:=by
 refine XV.o ?_;unfold XV.v;exact hR
theorem Wmf {xs:List (Int×Int×Int)}(h:Qr xs=true):(xs.map Qd).map clsT=xs:=by
 rw[zAS]
 conv=>rhs;rw[←zDS xs]
 apply zy;intro t ht;obtain⟨i,hi⟩:=zM ht;have:=((Qa xs).1 h).2.2.1 i t hi;obtain⟨c,_,h1,h2,h3,h4⟩:=GY this;simp only[Function.comp,id];rw[show Qd t=c from h1];unfold clsT;rw[←h2,←h3,←h4]
theorem WnW {xs:List (Int×Int×Int)}(h:Qr xs=true):(xs.map Qd).length<=40/\∀c∈xs.map Qd,c.ok:=by
 refine⟨by have:=((Qa xs).1 h).2.1;simpa using this,λc hc=>?_⟩;obtain⟨t,ht,rfl⟩:=zD.1 hc;obtain⟨i,hi⟩:=zM ht;have:=((Qa xs).1 h).2.2.1 i t hi;obtain⟨c,hok,h1,_⟩:=GY this;rw[show Qd t=c from h1];exact hok
structure NewH (H:Hw) (pages:Int):Prop where
 hi:HI H [] (Vn H.cf.pages)
 cf:CfOk H
 pg:(H.cf.pages:Int)=pages
 live:H.live=[]
theorem Wl1 {xs:List (Int×Int×Int)}{p a t b r:Int}(h:Qr xs=true)(hc:Wdd p a t b r=true):NewH (Uc (xs.map Qd) ⟨p.toNat,a.toNat,t.toNat,b.toNat,r.toNat⟩) p:=by
 obtain⟨⟨q1,q2,q3⟩,⟨q4,q5⟩,⟨q6,q7⟩,_⟩:=(WcS p a t b r).1 hc;obtain⟨l40,hok⟩:=WnW h;refine⟨WnD (cf:=⟨p.toNat,a.toNat,t.toNat,b.toNat,r.toNat⟩) (by simp only;omega) (by simp only;omega) (by simp only;omega) (by simp only;omega) l40 hok,⟨by simp only[Uc];omega,by simp[Uc],?_⟩,by simp only[Uc];omega,rfl⟩;show Qr ((xs.map Qd).map clsT)=true;rw[Wmf h];exact h
theorem Wnt (g:Gl U)(gd:Gd U)(b b1 b2 b3 b4 b5:Int){R:Option Addr->Hp->Prop}(h0:∀σ',Ext0 U σ'->R none σ')
 (h1:∀σ' L N H,Ext0 U σ'->U.size<=N->N<=σ'.size->HH σ' (λb=>N<=b) L H->NewH H b1->R (some ⟨L.p,0,none⟩) σ'):Wu.c b b1 b2 b3 b4 b5 U R:=by
 refine Wu.o ?_;unfold Wu.v;refine nw (cs:=[.int .i64 b,.int .i64 b1,.int .i64 b2,.int .i64 b3,.int .i64 b4,.int .i64 b5]) λv hz e hb=>hb.rI rfl ?_;by_cases hw:2<=b/\b<=16
 ·refine Wi4 b hw.1 hw.2 λs v1 e1 ha=>?_;have hb1:=e1.blk hb id;have e01:=e.trans e1;have hv:Qr (WcM b)=true:=by
   have:=Wbt b.toNat (by omega) (by omega);rw[show((b.toNat:Nat):Int)=b by omega]at this;exact this
  refine hb1.rI2 rfl (hb1.rI2 rfl (hb1.rI2 rfl (hb1.rI2 rfl (hb1.rI2 rfl ?_))));refine Wex ha (g.keep0 e01) (gd.keep0 e01) b1 b2 b3 b4 b5 (λhv'=>by rw[hv]at hv';cases hv') (λ_ hc v2 e2=>?_) λ_ hc v2 L e2 h2=>?_
  ·exact ifT rfl (h0 v2 (e01.trans e2))
  ·exact ifF rfl (h1 v2 L v1.size _ (e01.trans e2) e01.1 e2.1 h2 (Wl1 hv hc))
 ·refine Wkp b (by omega) (hb.rI2 rfl (hb.rI2 rfl (hb.rI2 rfl (hb.rI2 rfl (hb.rI2 rfl ?_)))));have ha:Acts v ⟨none,0,0⟩ []:=⟨rfl,λi x y z hx=>by simp at hx⟩;refine Wex ha (g.keep0 e) (gd.keep0 e) b1 b2 b3 b4 b5 (λ_ v2 e2=>ifT rfl (h0 v2 (e.trans e2))) (λhv=>?_) λhv=>?_
  ·exact absurd hv (by decide)
  ·exact absurd hv (by decide)
theorem Wh4 (h:HH U F L H)(thread:Int)(hn:∀t:Nat,thread=t->t<H.ths.length->phAt H t=none){R:Bool->Int->Int->Int->Hp->Prop}(hR:∀σ' e,Ext0 U σ'->e≠0->R false 0 0 e σ'):XA.c (some ⟨L.p,0,none⟩) thread U R:=by
 refine XA.o ?_;unfold XA.v;refine nw (cs:=[.int .i64 0,.int .i64 0]) λv hz e hb=>?_;have K1:=(HK.start h).box e hz;have fin:∀er:Int,er≠0->St1 (Addr.add ⟨U.size,0,none⟩ 0) (.int .i64 0) v λv5=>St1 (Addr.add ⟨U.size,0,none⟩ 1) (.int .i64 0) v5 λv6=>LdI .i64 (Addr.add ⟨U.size,0,none⟩ 0) v6 λres2=>LdI .i64 (Addr.add ⟨U.size,0,none⟩ 1) v6 λres3=>R false res2 res3 er v6:=λer hne=>
  hb.s1 (by simp) λv1 o1 b1=>b1.s1 (by simp) λv2 o2 b2=>b2.rI rfl (b2.rI rfl (hR v2 er ((e.only o1 (.inr (zC _))).only o2 (.inr (zC _))) hne))
 refine Q6 K1.h (ifF rfl (Hv K1.h thread ?_));by_cases hth:0<=thread/\thread<(H.ths.length:Int)
 ·obtain⟨t,rfl⟩:∃t:Nat,thread=(t:Int):=⟨thread.toNat,by omega⟩;have ht:t<H.ths.length:=by omega
  obtain⟨x,g,hx,hg⟩:=h.th ht;have hp:=hn t rfl ht;unfold phAt at hp;rw[hg]at hp;have hp:g.ph=none:=hp;refine ifF (by rw[zH hth];rfl) (nilP (K1.h.hd.rS rfl (K1.h.tR hx hg ⟨WaH _,?_⟩)));rw[hp];exact ifT rfl (fin 5 (by decide))
 ·exact ifT (by rw[zJ hth];rfl) (fin 1 (by decide))
def Safe (H:Hw)(d:Deed)(x:Int)(e:Int×Bk):Prop:=(∀j,phAt H j≠some (.find e.1))/\¬((d.kd=3\/d.kd=1\/d.kd=6)/\e.1<=x/\x<e.1+e.2.2.1)
structure DoE (H:Hw) (d:Deed) (x:Int) (H':Hw):Prop where
 hi:∃held s0,HI H' held s0
 kp:Z1 H' H
 fx:∀e∈H.live,Safe H d x e->e∈H'.live/\(∀w:Nat,e.1<=((8*w:Nat):Int)->((8*w:Nat):Int)<e.1+e.2.2.1->H'.sp.wd w=H.sp.wd w)/\∀j,phAt H' j≠some (.find e.1)
theorem DoE.same (h:HI H held s0)(d:Deed)(x:Int):DoE H d x H:=⟨⟨_,_,h⟩,Z1.refl _,λe he hs=>⟨he,λ_ _ _=>rfl,hs.1⟩⟩
theorem DoE.op (h:HI H held s0){d:Deed}{x:Int}(o:OpOk H H')(hl:∀e∈H.live,Safe H d x e->e∈H'.live):DoE H d x H':=
 ⟨o.hi,o.kp,λe he hs=>⟨hl e he hs,h.kl o.ks e he,λj=>by rw[o.ph];exact hs.1 j⟩⟩
theorem DoE.ar {d:Deed}{x:Int}(o:ArOk H H'):DoE H d x H':=
 ⟨o.hi,o.kp,λe he hs=>⟨by rw[o.live];exact he,o.kl e he,λj=>by unfold phAt;rw[o.ths];exact hs.1 j⟩⟩
theorem HI.size8 (h:HI H held s0){e:Int×Bk}(he:e∈H.live):8<=e.2.2.1/\0<=e.1/\e.1%8=0/\e.2.2.1%8=0/\e.1+e.2.2.1<=270000:=by
 obtain⟨_,p,hp,h1,h2,h3,h4,_⟩:=h.lv e he;have s8:=h.wi'.size_pos hp;have al:=h.wi'.addr_lt hp;obtain⟨A,hA,hd⟩:=h.wi'.hf p hp;have a8:p.addr%8=0:=by
  rcases hd with⟨_,_,r,hr,c2,c3⟩|⟨j,c,c1,c2,c3,c4,_⟩
  ·omega
  ·obtain⟨c',ss,hcl,ht⟩:=c4;have:c'=c:=Option.some.inj (hcl.1.symm.trans c2);subst this;have hC:=(h.wi'.ga _ A hA).cen j c' ss hcl;obtain⟨l,s,i,hs,hi,e,_⟩:=(Ua hC).1 ht;have hok:=hC.ok;unfold Cls.ok at hok;unfold at_ at e;have h8:c'.size=8*(c'.size/8):=by omega
   have:i*c'.size=8*(i*(c'.size/8)):=by rw[Nat.mul_left_comm,←h8]
   omega
 omega
theorem DoE.write (h:HI H held s0){d:Deed}{x:Int}(hd:d.kd=3)(v:Int):DoE H d x {H with sp:=Kt H.sp x v}:=by
 refine⟨⟨_,_,h.write x v⟩,⟨rfl,rfl,rfl,rfl⟩,λe he hs=>⟨he,λw h1 h2=>?_,hs.1⟩⟩;have h8:=h.size8 he;rw[(Wav H.sp x v).2.2,zB];rintro⟨h0,hw⟩;have hz:=Wdk h0;exact hs.2 ⟨.inl hd,by omega,by omega⟩
theorem Wkm {size align a e:Int}(h:MalE H size align H' a e):∀x∈H.live,x∈H'.live:=λx hx=>by
 rcases h with⟨_,_,h3⟩|⟨_,h2,_,cl,h3,_⟩
 ·rw[h3];exact hx
 ·rw[h3];exact(UJ h2).2 (.inl hx)
theorem DoE.free (h:HI H held s0){d:Deed}{x thread e:Int}(hd:d.kd=1)(o:OpOk H H')(hf:FreE H thread x H' e):DoE H d x H':=by
 refine DoE.op h o λe' he hs=>?_;have h8:=h.size8 he;rcases hf with⟨_,h2,_⟩|⟨_,_,_,h4⟩|⟨_,b,_,_,h4⟩
 ·rw[h2];exact he
 ·rw[h4];exact he
 ·rw[h4];refine He.2 ⟨he,λhx=>hs.2 ⟨.inr (.inl hd),by omega,by omega⟩⟩
theorem DoE.step (h:HI H held s0){d:Deed}{x:Int}(hg:H.ths[t]?=some g){p:Ph}(hp:g.ph=some p):DoE H d x (QG H t p):=by
 have ht:=(gSi.1 hg).1;have s:=h.stp hg hp;have pht:phAt H t=some p:=by unfold phAt;rw[hg];exact hp
 have live:∀e∈H.live,p≠.find e.1->e∈(QG H t p).live:=λe he hne=>by
  by_cases hf:isF p
  ·obtain⟨_,_,_,el,efi⟩:=st_F h hg hp hf;by_cases hx:∃y,p=.find y
   ·obtain⟨y,rfl⟩:=hx;cases hm:mget H.live y with
    | none=>rw[((efi y rfl).1 hm).2.2];exact he
    | some b=>
     rw[((efi y rfl).2 b hm).2];exact He.2 ⟨he,λhy=>hne (by rw[hy])⟩
   ·rw[(el λy hy=>hx ⟨y,hy⟩).2];exact he
  ·obtain⟨cl,sz,hr⟩:=Wlv h hg hp hf;obtain⟨_,ef⟩:=st_M h hg hp hr;rcases ef with⟨_,_,_,e2,_⟩|⟨_,_,_,e4⟩|⟨_,_,e3,e4⟩
   ·rw[e2];exact he
   ·rw[e4];exact he
   ·rw[e4];exact(UJ e3).2 (.inl he)
 have nof:∀y,(Wt H t p).2.1≠some (.find y):=λy hy=>by
  by_cases hf:isF p
  ·obtain⟨_,_,ef,_⟩:=st_F h hg hp hf;rcases ef with⟨p',g',e1,_,e3,_⟩|e1
   ·rw[e1]at hy;exact e3 y (Option.some.inj hy)
   ·rw[e1]at hy;cases hy
  ·obtain⟨cl,sz,hr⟩:=Wlv h hg hp hf;obtain⟨_,ef⟩:=st_M h hg hp hr;rcases ef with⟨p',g',e1,_,_,e4,_⟩|⟨e1,_⟩|⟨e1,_⟩
   ·rw[e1]at hy;cases hy;exact e4.elim
   ·rw[e1]at hy;cases hy
   ·rw[e1]at hy;cases hy
 refine⟨s.hi,Uz H t p,λe he hs=>⟨live e he λhx=>hs.1 t (by rw[pht,hx]),h.kl s.ks e he,λj=>?_⟩⟩;by_cases hj:j=t
 ·subst hj;obtain⟨g',hg',hp'⟩:=Hm (p:=p) ht;unfold phAt;rw[hg'];show g'.ph≠_;rw[hp'];exact nof _
 ·unfold phAt;rw[Uo p hj];exact hs.1 j
theorem DoE.start (h:HI H held s0){d:Deed}{x:Int}{kind size align addr:Int}(ha:I63 addr)(hk:kind=1->d.kd=6/\addr=x)(hk2:kind=0\/kind=1){t:Nat}{p:Ph}{thread:Int}(hs:Kc H thread kind size align addr=.inr (t,p)):DoE H d x (setPh H t (some p)):=by
 rcases VB H thread kind size align addr with⟨e,he,_⟩|⟨t',p',g,hth,hg,hn,hq,hs'⟩
 ·rw[he]at hs;cases hs
 ·rw[hs']at hs;obtain⟨rfl,rfl⟩:t'=t/\p'=p:=by cases hs;exact⟨rfl,rfl⟩
  have hng:∀s a,p'≠.give s a:=λs a e=>by
   subst e;unfold reqH at hq;split at hq
   ·split at hq
    ·split at hq
     ·split at hq<;>cases hq
     ·cases hq
    ·cases hq
   ·split at hq
    ·cases hq
    ·split at hq<;>cases hq
  have hi:=h.setPh hg hn (GR (g:=g) hq ha (Uy h hg hn)) hng;refine⟨⟨_,_,hi⟩,Q5 _ _ _,λe he hsf=>⟨he,λ_ _ _=>rfl,λj=>?_⟩⟩;by_cases hj:j=t'
  ·subst hj;obtain⟨g2,hg2,hp2⟩:=WfG (H:=H) (p:=some p') (gSi.1 hg).1;unfold phAt;rw[hg2];show g2.ph≠_;rw[hp2];intro hx;cases hx;unfold reqH at hq;rcases hk2 with rfl|rfl
   ·simp at hq;obtain⟨_,hq⟩:=hq;split at hq<;>(obtain⟨_,hq⟩:=hq;cases hq)
   ·simp at hq;obtain⟨k1,k2⟩:=hk rfl;have h8:=h.size8 he;exact hsf.2 ⟨.inr (.inr k1),by omega,by omega⟩
  ·rw[WbD hg _ hj];exact hsf.1 j
end Go.Ar
namespace Go.Proofs
open Go.Vc
set_option maxRecDepth 100000
def WM.h:Hn:=.q .o1 (.q .o2 (.q (.q .o2 (.c (.q .o1 .l) .l)) (.q .o7 (.q .o7 (.q .o8 (.q .o8 (.q .o7 (.q .o8 (.q .o9 (.q .o8 (.q (.reg (.seq [.op,.op,.op,.grd true 2 [.op,.op],.op,.grd true 2 [.op,.op],.op,.grd true 2 [.op,.op],.op,.grd true 3 (RI.ops 3),.op,.grd true 2 [.op,.op],.op,.grd true 3 (RI.ops 3),.op,.grd true 2 [.op,.op],.op,.grd true 2 [.op,.op],.op,.grd true 2 [.op,.op],.op,.grd true 2 [.op,.op],.op,.grd true 2 [.op,.op],.op,.grd true 2 [.op,.op],.op,.grd true 2 [.op,.op],.op])) .l)))))))))))
def WM.v (a:Hp)(b:Bool->Hp->Prop):Prop:=Xz.c a λc d=>If c.isNone (b false d) (ZQ.c c 24 8 d λe f g=>Yo.c c 0 0 24 g λh i j=>Yo.c c 0 h 20 j λk l m=>Yo.c c 0 h 300 m λn o p=>Qy.c c 0 (ByteArray.mk #[97,98,99]) p λq r s=>W9.c c q s λt u v=>Ar .i64 (q+8) λw=>W9.c c w v λx y z=>Qz.c c q z λaa ab ac=>JnB (λad ae=>JnB (λaf ag=>JnB (λah ai=>JnB (λaj ak=>JnB (λal am=>JnB (λan ao=>JnB (λap aq=>JnB (λar au=>JnB (λav aw=>JnB (λax ay=>JnB (λaz a0=>JnB (λa1 a2=>JnB (λa3 a4=>b a3 a4) λa5=>If a1 (a5 (ab==0) a2) (a5 false a2)) λa6=>If az (a6 (aa.toList==(ByteArray.mk #[97,98,99]).toList) a0) (a6 false a0)) λa7=>If ax (a7 (x==6513249) ay) (a7 false ay)) λa8=>If av (a8 (t==3) aw) (a8 false aw)) λa9=>If ar (a9 (r==0) au) (a9 false au)) λba=>If ap (ba (o==0) aq) (ba false aq)) λbb=>If an (bb (n != 0) ao) (bb false ao)) λbc=>If al (bc (n != h) am) (bc false am)) λbd=>If aj (bd (l==0) ak) (bd false ak)) λbe=>If ah (be (k==h) ai) (be false ai)) λbf=>If af (bf (i==0) ag) (bf false ag)) λbg=>If ad (bg (h==4096) ae) (bg false ae)) λbh=>If (e==24) (bh (f==0) ac) (bh false ac))
theorem WM.o {a b}(c:WM.v a b):WM.c a b:=Wa Tryz.func18 (x:=WM.h) (R0 c)
def XT.h:Hn:=.q .o3 (.q (.q (.reg (.seq [.op,.op,.op,.grd false 3 (RI.ops 3)])) (.c (.q .o2 .l) .l)) (.q .o3 (.q (.q .o2 (.c (.q .o2 .l) .l)) (.q .o1 (.q (.q .o1 (.k (.loop [(9,.one .s),(10,.I)] (.q (.q .o4 (.c .l .l)) (.q (.k (.q (.q .o6 (.c .l .l)) (.q (.o 14) (.q .o2 (.c .o5 .l))))) .o3))))) (.q .o4 .l))))))
def XT.v (a b c d e f:Int)(g:Sl)(h:Int)(i:Hp)(j:Option Addr->Sl->Hp->Prop):Prop:=Nw (.cells #[.I a,.I b,.I c,.I d,.I e,.I f] 46 (0,0)) i λk l=>LdI .i64 (k.add 0) l λm=>LdI .i64 (k.add 1) l λn=>LdI .i64 (k.add 2) l λo=>LdI .i64 (k.add 3) l λp=>LdI .i64 (k.add 4) l λq=>LdI .i64 (k.add 5) l λr=>WR.c m n o p q r l λs t=>JnB (λu v=>If u (j none ⟨none,0,0⟩ v) (LdI .i64 (k.add 0) v λw=>LdI .i64 (k.add 1) v λx=>LdI .i64 (k.add 2) v λy=>LdI .i64 (k.add 3) v λz=>LdI .i64 (k.add 4) v λaa=>LdI .i64 (k.add 5) v λab=>Wu.c w x y z aa ab v λac ad=>If ac.isNone (j none ⟨none,0,0⟩ ad) (Xo [.s,(.i .i64)] (λae=>ae ⟨none,0,0⟩ 0 ad) λaf (ag:Sl) (ah:Int) ai=>If (ah<((g.len:Nat):Int)) (Ix g.a g.len ah 8 λaj=>LdI .i64 (aj.add 0) ai λak=>If (ak≥20) (Ar .i64 (ah+1) λal=>af ag al ai) (Ix g.a g.len ah 8 λam=>LdI .i64 (am.add 0) ai λan=>LdI .i64 (am.add 1) ai λao=>LdI .i64 (am.add 2) ai λap=>LdI .i64 (am.add 3) ai λaq=>LdI .i64 (am.add 4) ai λar=>LdI .i64 (am.add 5) ai λau=>LdI .i64 (am.add 6) ai λav=>LdT (am.add 7) ai λaw=>YX.c ac ag an ao ap aq ar au av aw ai λax ay az a0=>If (az>0) (Nw (.cells #[.I az] 3 (0,0)) a0 λa1 a2=>App ag 1 8 3 [.I 0] ⟨some a1,1,1⟩ a2 λa3 a4=>Ar .i64 (ah+1) λa5=>af a3 a5 a4) (Ar .i64 (ah+1) λa6=>af ag a6 a0))) (j ac ag ai)))) λa7=>If s (a7 true t) (Xx.c g h t λa8 a9=>a7 a8 a9)
theorem XT.o {a b c d e f g h i j}(k:XT.v a b c d e f g h i j):XT.c a b c d e f g h i j:=Wa Tryz.func19 (x:=XT.h) (R0 k)
def Xf.h:Hn:=.q .o1 (.q .o1 (.q .o8 (.q (.q .o2 (.k (.loop [(5,.one .s),(8,.I)] (.q (.q .o6 (.c .l .l)) (.q (.k (.q .o8 .o5)) .o3))))) (.q .o2 .l))))
def Xf.v (a:R2)(b:Int)(c:Hp)(d:Sl->Hp->Prop):Prop:=WN.c a b c λe f g=>Xo [.s,(.i .i64)] (λh=>h ⟨none,0,0⟩ b g) λi (j:Sl) (k:Int) l=>Ar .i64 (k+8) λm=>Ar .i64 (b+e) λn=>If (m<=n) (W9.c a k l λo p q=>Nw (.cells #[.I o] 3 (0,0)) q λr s=>App j 1 8 3 [.I 0] ⟨some r,1,1⟩ s λt u=>Ar .i64 (k+8) λv=>i t v u) (d j l)
theorem Xf.o {a b c d}(e:Xf.v a b c d):Xf.c a b c d:=Wa Tryz.func26 (x:=Xf.h) (R0 e)
def Xx.h:Hn:=.q .o1 (.q (.q .o3 (.c (.q .o1 .l) .l)) (.q .o1 (.q (.q .o1 (.k (.loop [(5,.I),(6,.I)] (.q (.q .o4 (.c .l .l)) (.q (.k (.q .o9 (.q .o2 (.c (.q .o1 .l) .l)))) .o3))))) (.q .o1 .l))))
def Xx.v (a:Sl)(b:Int)(c:Hp)(d:Bool->Hp->Prop):Prop:=XV.c a b c λe f=>If e (d true f) (Xo [(.i .i64),(.i .i64)] (λg=>g 0 0 f) λh (i:Int) (j:Int) k=>If (j<((a.len:Nat):Int)) (Ix a.a a.len j 8 λl=>LdT (l.add 7) k λm=>Ar .i64 (i+((m.size:Nat):Int)) λn=>If (n>5000) (d true k) (Ar .i64 (j+1) λo=>h n o k)) (d false k))
theorem Xx.o {a b c d}(e:Xx.v a b c d):Xx.c a b c d:=Wa Tryz.func29 (x:=Xx.h) (R0 e)
end Go.Proofs
namespace Go.Ar
open Go Go.Vc Go.Proofs
variable {U w w':Hp}{F P Q X:Rg}{L:LayH}{H H':Hw}{held:List Pc}{s0:Sp}{t n:Nat}{g:Th}
set_option maxRecDepth 8000 in
theorem Woc (h:HH U F L H)(hi:HI H held s0)(hc:CfOk H)(h208:H.cf.pages<=208){addrs:Sl}{ad:List Int}(hs:SlR addrs 1 (Wx ad) U X)(d:Deed)(di:DeedI d){R:Int->Int->Int->Hp->Prop}
 (hR:∀a e n σ' ts' H',Ext F U σ'->HH σ' (Grow F U) {L with ts:=ts'} H'->DoE H d (atV ad d) H'->R a e n σ') :
 YX.c (some ⟨L.p,0,none⟩) addrs d.kd d.th d.a d.b d.of d.pl d.va d.s U R:=by
 refine YX.o ?_;unfold YX.v;refine nw (cs:=WdF d) λv hz e hb=>hb.rI rfl (hb.rI rfl (hb.rI rfl (hb.rI rfl (hb.rI rfl (hb.rI rfl (hb.rI rfl (hb.rT rfl ?_)))))));refine Wod ((SlR.loc _ _ _).keep0 ((SlR.loc _ _ _).cut hs) e) d λv1 e1=>?_;have K:=((HK.start h).box e hz).fr e1;have hb1:=e1.blk hb id;have hat:=Wom (ad:=ad) di;generalize hx:atV ad d=x at hat hR;refine hb1.rI rfl (iff_ (λhk=>?_) λhk0=>?_)
 ·obtain⟨H',a,er,hw,o,me⟩:=Wdj hi d.th d.a d.b;refine hb1.rI rfl (hb1.rI rfl (hb1.rI rfl (KV Wcb K.h hc.2.2 hw λv2 ts e2 h2=>?_)));have K2:=K.to e2 h2 λb _ hb=>hb;exact hR _ _ _ v2 ts H' K2.e (K2.fin h) (DoE.op hi o λe he _=>Wkm me e he)
 refine iff_ (λhk=>?_) λhk1=>?_
 ·obtain⟨H',er,hw,o,fe⟩:=HY hi d.th x hat.2;refine hb1.rI rfl (Wcm Wcb K.h hc.2.2 hw λv2 ts e2 h2=>?_);have K2:=K.to e2 h2 λb _ hb=>hb;exact hR _ _ _ v2 ts H' K2.e (K2.fin h) (DoE.free hi (by simpa using hk) o fe)
 refine iff_ (λhk=>?_) λhk2=>?_
 ·obtain⟨H',er,hw,o,le⟩:=Wd6 hi d.th;refine hb1.rI rfl (Wi5 Wcb K.h hc.2.2 hw λv2 ts e2 h2=>?_);have K2:=K.to e2 h2 λb _ hb=>hb;exact hR _ _ _ v2 ts H' K2.e (K2.fin h) (DoE.op hi o λe he _=>by rw[le];exact he)
 refine iff_ (λhk=>?_) λhk3=>?_
 ·refine hb1.rI rfl (Hk K.h x d.va hat.2 λv2 e2 h2=>?_);have K2:=K.to e2 h2 λb _ hb=>hb;exact hR _ _ _ v2 L.ts _ K2.e (K2.fin h) (DoE.write hi (by simpa using hk) d.va)
 refine iff_ (λhk=>?_) λhk4=>?_
 ·refine Vi K.h x hat.2 λv2 e2=>?_;have K2:=K.fr e2;exact hR _ _ _ v2 L.ts _ K2.e (K2.fin h) (DoE.same hi d x)
 refine iff_ (λhk=>?_) λhk5=>?_
 ·refine hb1.rI rfl (hb1.rI rfl (hb1.rI rfl (Wag K.h hc.2.2 d.th 0 d.a d.b 0 (λer he hne v2 e2 h2=>?_) λt p hst hth ht v2 e2 h2=>?_)))
  ·have K2:=K.to e2 h2 λb _ hb=>hb;exact hR _ _ _ v2 L.ts _ K2.e (K2.fin h) (DoE.same hi d x)
  ·have K2:=K.to e2 h2 λb _ hb=>hb;exact hR _ _ _ v2 L.ts _ K2.e (K2.fin h) (DoE.start hi (by unfold I63;decide) (λh=>by cases h) (.inl rfl) hst)
 refine iff_ (λhk=>?_) λhk6=>?_
 ·refine hb1.rI rfl (Wag K.h hc.2.2 d.th 1 0 0 x (λer he hne v2 e2 h2=>?_) λt p hst hth ht v2 e2 h2=>?_)
  ·have K2:=K.to e2 h2 λb _ hb=>hb;exact hR _ _ _ v2 L.ts _ K2.e (K2.fin h) (DoE.same hi d x)
  ·have K2:=K.to e2 h2 λb _ hb=>hb;exact hR _ _ _ v2 L.ts _ K2.e (K2.fin h) (DoE.start hi hat.2 (λ_=>⟨by simpa using hk,rfl⟩) (.inr rfl) hst)
 refine iff_ (λhk=>?_) λhk7=>?_
 ·refine hb1.rI rfl ?_;by_cases hst:∃(t:Nat) (g:Th) (p:Ph),d.th=t/\H.ths[t]?=some g/\g.ph=some p
  ·obtain⟨t,g,p,hth,hg,hp⟩:=hst;rw[hth];refine WeP Wcb K.h hg hp (hi.stp hg hp).ok λv2 ts e2 h2=>?_;have K2:=K.to e2 h2 λb _ hb=>hb;refine nw (cs:=[.int .i64 0,.int .i64 0]) λv3 hz3 e3 hb3=>hb3.s1 (by simp) λv4 o4 b4=>b4.s1 (by simp) λv5 o5 b5=>?_;have K5:=((K2.box e3 hz3).own o4 (.inr rfl)).own o5 (.inr rfl);have fin:∀a e n,R a e n v5:=λa e n=>hR a e n v5 ts _ K5.e (K5.fin h) (DoE.step hi hg hp);refine QM (λr w=>w=v5) (λr w hw=>?_) λJ hJ=>ifF rfl (hJ _ _ rfl);subst hw;exact iff_ (λ_=>fin _ _ _) λ_=>b5.rI rfl (b5.rI rfl (arW (b5.rI rfl (fin _ _ _))))
  ·refine Wh4 K.h d.th (λt hth ht=>?_) λv2 er e2 hne=>?_
   ·obtain⟨x',g,_,hg⟩:=h.th ht;unfold phAt;rw[hg];cases hp:g.ph with
    | none=>exact hp
    | some p=>exact(hst ⟨t,g,p,hth,hg,hp⟩).elim
   ·have K2:=K.fr e2;refine nw (cs:=[.int .i64 0,.int .i64 0]) λv3 hz3 e3 hb3=>hb3.s1 (by simp) λv4 o4 b4=>b4.s1 (by simp) λv5 o5 b5=>?_;have K5:=((K2.box e3 hz3).own o4 (.inr rfl)).own o5 (.inr rfl);refine QM (λr w=>w=v5) (λr w hw=>?_) λJ hJ=>ifT (by simpa using hne) (hJ _ _ rfl);subst hw;have fin:∀a e n,R a e n w:=λa e n=>hR a e n w L.ts _ K5.e (K5.fin h) (DoE.same hi d x);exact iff_ (λ_=>fin _ _ _) λ_=>b5.rI rfl (b5.rI rfl (arW (b5.rI rfl (fin _ _ _))))
 refine iff_ (λhk=>?_) λhk8=>?_
 ·have rel:=WkA hi d.a;refine hb1.rI rfl (WeC K.h d.a di.a.2 (λn A hn hA=>?_) (λn hn=>?_) (λhneg=>?_) λhpos v2 e2 h2=>?_)
  ·obtain⟨held',s0',h'⟩:=(rel n).1.hi;exact h'.few (by rw[(rel n).1.kp.2.1];exact h208) hA
  ·have:=(rel n).2;have:=h.s.a2;omega
  ·exact hR _ _ _ v1 L.ts _ K.e (K.fin h) (DoE.same hi d x)
  ·have K2:=K.to e2 h2 λb _ hb=>hb;exact hR _ _ _ v2 L.ts _ K2.e (K2.fin h) (DoE.ar (rel _).1)
 refine iff_ (λhk=>?_) λhk9=>?_
 ·have tr:=WhH hi;refine WjT K.h (λn hn=>?_) λv2 e2 h2=>?_
  ·have:=(tr n).2;have:=h.s.a2;omega
  ·have K2:=K.to e2 h2 λb _ hb=>hb;exact hR _ _ _ v2 L.ts _ K2.e (K2.fin h) (DoE.ar (tr _).1)
 refine iff_ (λhk=>?_) λhk10=>?_
 ·have ti:=Wg8 hi;refine WjQ K.h (λn A hn hA=>?_) λv2 e2 h2=>?_
  ·obtain⟨held',s0',h'⟩:=(ti n).hi;exact(h'.wi.ga n A hA).traI
  ·have K2:=K.to e2 h2 λb _ hb=>hb;exact hR _ _ _ v2 L.ts _ K2.e (K2.fin h) (DoE.ar (ti _))
 exact hR _ _ _ v1 L.ts _ K.e (K.fin h) (DoE.same hi d x)
structure PlayOk (σ0 U:Hp) (L:LayH) (H:Hw) (held:List Pc) (s0:Sp) (P Q:Rg) (addrs:Sl) (ad:List Int):Prop where
 e:Ext0 σ0 U
 h:HH U P L H
 hi:HI H held s0
 cf:CfOk H
 pg:H.cf.pages<=128
 pP:∀b,P b->σ0.size<=b/\b<U.size
 pQ:∀b,Q b->σ0.size<=b/\b<U.size/\¬P b
 row:RowR addrs 1 (Wx ad) U Q
 al:ad.length<=60
 g0:Off (λb=>σ0.size<=b)/\¬σ0.size<=1
variable {σ0:Hp}{addrs:Sl}{ad:List Int}
theorem PlayOk.step (p:PlayOk σ0 U L H held s0 P Q addrs ad){ts':List LayT}(e:Ext P U w)(h':HH w (Grow P U) {L with ts:=ts'} H'){held':List Pc}{s0':Sp}(hi':HI H' held' s0')(k:Z1 H' H) :
 PlayOk σ0 w {L with ts:=ts'} H' held' s0' (Cut (Grow P U) w) Q addrs ad:=by
 have hz:=e.1;refine⟨Ext.newT p.e e λb hb=>.inr (p.pP b hb).1,h'.cut,hi',p.cf.keep k,by rw[k.2.1];exact p.pg,λb hb=>⟨?_,hb.2⟩,λb hb=>?_,(RowR.loc _ _ _).keep p.row e λb _ hq hp=>(p.pQ b hq).2.2 hp,p.al,p.g0⟩
 ·have:=p.e.1;rcases hb.1 with h1|h1
  ·exact(p.pP b h1).1
  ·omega
 ·obtain⟨q1,q2,q3⟩:=p.pQ b hb;exact⟨q1,by omega,λhx=>by
   rcases hx.1 with h1|h1
   ·exact q3 h1
   ·omega⟩
theorem PlayOk.fr (p:PlayOk σ0 U L H held s0 P Q addrs ad)(e:Ext0 U w):PlayOk σ0 w L H held s0 P Q addrs ad:=
 ⟨p.e.trans e,p.h.keep0 e,p.hi,p.cf,p.pg,λb hb=>⟨(p.pP b hb).1,by have:=(p.pP b hb).2;have:=e.1;omega⟩,λb hb=>⟨(p.pQ b hb).1,by have:=(p.pQ b hb).2.1;have:=e.1;omega,(p.pQ b hb).2.2⟩,(RowR.loc _ _ _).keep0 p.row e,p.al,p.g0⟩
theorem PlayOk.out (p:PlayOk σ0 U L H held s0 P Q addrs ad){T:Rg}(e:Ext T U w)(hT:∀b,b<U.size->T b->¬P b/\¬Q b/\σ0.size<=b):PlayOk σ0 w L H held s0 P Q addrs ad:=by
 have hz:=e.1;have e':Ext (λb=>T b/\b<U.size) U w:=⟨e.1,λb hb hf=>e.2 b hb λht=>hf ⟨ht,hb⟩⟩;refine⟨Ext.newT p.e e' λb hb=>.inr (hT b hb.2 hb.1).2.2,p.h.keep e' (λb hb hp ht=>(hT b hb ht.1).1 hp) (λb hb=>?_) (λhb=>?_),p.hi,p.cf,p.pg,λb hb=>⟨(p.pP b hb).1,by have:=(p.pP b hb).2;omega⟩,λb hb=>⟨(p.pQ b hb).1,by have:=(p.pQ b hb).2.1;omega,(p.pQ b hb).2.2⟩,(RowR.loc _ _ _).keep p.row e' λb hb hq ht=>(hT b hb ht.1).2.1 hq,p.al,p.g0⟩
 ·exact p.g0.1 b (hT b hb.2 hb.1).2.2
 ·exact p.g0.2 (hT _ hb.2 hb.1).2.2
theorem Woa (hr:RowR addrs 1 (Wx ad) U Q)(hl:ad.length<=1000000)(x:Int){e t:Nat}{K:Sl->Hp->Prop}(hK:∀s' w,Ext Q U w->RowR s' 1 (Wx (ad++[x])) w (λb=>Q b\/U.size<=b/\b<w.size)->K s' w) :
 Nw (.cells #[.int .i64 x] t (0,0)) U λn v=>App addrs 1 8 e [.int .i64 0] ⟨some n,1,1⟩ v K:=by
 have hal:addrs.len=ad.length:=by have:=hr.1;simp[Wx]at this;omega
 refine RowR.push (F:=λb=>Q b\/U.size<=b) (vs:=[.int .i64 x]) ((RowR.loc _ _ _).mono hr λb _ hb=>.inl hb) (λb hb=>.inr hb) rfl rfl (by simp[one1]) (by omega) (by omega) λs' w hsl ew hw=>hK s' w ⟨ew.1,λb hb hq=>ew.2 b hb λhx=>hx.elim hq λhx=>by omega⟩ ?_;have:Wx (ad++[x])=Wx ad++[.int .i64 x]:=by simp[Wx]
 rw[this];refine(RowR.loc _ _ _).mono ((RowR.loc _ _ _).cut hw) λb hb hx=>?_;rcases hx.1 with h1|h1
 ·exact .inl h1
 ·exact .inr ⟨h1,hb⟩
end Go.Ar
namespace Go.Ar
open Go.Vc (mget mset mdel)
def i63 (x:Int):Bool:=decide (x<=9223372036854775807)
def Wa7 (H:Hw)(t:Nat):Ph->Bool
 | .take k=>decide (k<H.tb.length)&&(match Kd (H.cls k) ((H.thr t).li k)with
  | (some y,_)=>i63 y
  | (none,_)=>true)
 | .transfer k _=>decide (k<H.tb.length)&&(Z9 (H.arn t) (k:Int) != 0 || !(YD (H.arn t) (k:Int)).isEmpty)
 | .central _ _=>true
 | .grow _ _=>true
 | .fill=>match (H.thr t).hands with
  | (k,x::xs)::_=>decide (k<H.tb.length)&&(i63 x&&decide (((H.thr t).li k).os.length+xs.length<=256))
  | _=>false
 | .large m=>decide (Z6 (H.arn t) H.sp (m:Int) 1<=1000000)
 | .find x=>i63 x&&((mget H.live x).isSome&&decide (0<=x))
 | .put k _=>decide (k<H.tb.length) && !(H.thr t).hands.isEmpty
 | .back=>match (H.thr t).hands with
  | (_,xs)::_=>(xs.all λx=>i63 x&&decide (0<=XZ H.ars x))&&decide (xs.length<=1000000)
  | _=>false
 | .give _ a=>decide (0<=a)&&(decide (a.toNat<H.ars.length)&&H.ars.all λA=>A.runs.all λr=>decide (r.1<=1000000))
 | .drain=>true
theorem Wfj {x:Int}(h:i63 x=true):I63 x:=by
 unfold i63 at h;unfold I63;exact zCQ h
theorem Wko {H:Hw}{t:Nat}{p:Ph}(h:Wa7 H t p=true):WgA H t p:=by
 cases p with
 | take k=>
  simp only[Wa7,zF,zQ]at h;refine⟨h.1,λy l hy=>?_⟩;have h2:=h.2;rw[hy]at h2;exact Wfj h2
 | transfer k w=>
  simp only[Wa7,zF,zQ,zAT]at h;refine⟨h.1,λh0 he=>?_⟩;rw[h0,he]at h;simp at h
 | central k w=>trivial
 | grow k w=>trivial
 | fill=>
  simp only[Wa7]at h;split at h
  ·rename_i k x xs r hh;simp only[zF,zQ]at h;exact⟨k,x,xs,r,hh,h.1,Wfj h.2.1,h.2.2⟩
  ·cases h
 | large m=>
  simp only[Wa7,zQ]at h;exact h
 | find x=>
  simp only[Wa7,zF,zQ]at h;exact⟨Wfj h.1,λhn=>by rw[hn]at h;simp at h,λb _=>h.2.2⟩
 | put k x=>
  simp only[Wa7,zF,zQ]at h;exact⟨h.1,λhe=>by rw[he]at h;simp at h⟩
 | back=>
  simp only[Wa7]at h;split at h
  ·rename_i k xs r hh;simp only[zF,zQ,zu]at h;exact⟨k,xs,r,hh,λx hx=>⟨Wfj (h.1 x hx).1,(h.1 x hx).2⟩,h.2⟩
  ·cases h
 | give s a=>
  simp only[Wa7,zF,zQ,zu]at h;exact⟨h.1,h.2.1,h.2.2⟩
 | drain=>trivial
def runB:Nat->Hw->Nat->Ph->Option (Hw×Int×Int)
 | 0,_,_,_=>none
 | n+1,H,t,p=>if Wa7 H t p&&decide ((H.thr t).hands.length<=900)then(match (Wt H t p).2.1 with
  | none=>some (QG H t p,(Wt H t p).2.2.1,(Wt H t p).2.2.2)
  | some p'=>runB n (QG H t p) t p')else none
theorem Wg5:∀{n:Nat} {H:Hw} {t:Nat} {p:Ph} {r:Hw×Int×Int},runB n H t p=some r->∃m,RunN m H t p r.1 r.2.1 r.2.2
 | 0,_,_,_,_,h=>by simp[runB]at h
 | n+1,H,t,p,r,h=>by
  rw[runB]at h;split at h
  ·rename_i hc;simp only[zF,zQ]at hc;have hok:Wbh H t p:=⟨Wko hc.1,λg hg=>by rw[←Gp hg];exact hc.2⟩;split at h
   ·rename_i hn;cases h;exact⟨1,.done hok hn⟩
   ·rename_i p' hs;obtain⟨m,hm⟩:=Wg5 h;exact⟨m+1,.next hok hs hm⟩
  ·cases h
def WeM (H:Hw)(thread kind size align addr:Int):Option (Hw×Int×Int):=match Kc H thread kind size align addr with
 | .inl e=>if e=0 then none else some (H,0,e)
 | .inr (t,p)=>runB 40 (setPh H t (some p)) t p
theorem WiV {H:Hw}{thread kind size align addr:Int}{r:Hw×Int×Int}(h:WeM H thread kind size align addr=some r):KR H thread kind size align addr r.1 r.2.1 r.2.2:=by
 unfold WeM at h;split at h
 ·rename_i e he;split at h
  ·cases h
  ·rename_i hne;cases h;exact .inl ⟨he,hne,rfl,rfl⟩
 ·rename_i t p he;obtain⟨m,hm⟩:=Wg5 h;exact .inr ⟨t,p,m,he,hm⟩
def tb8:List Cls:=(WcM 8).map Qd
def w0:Hw:=Uc tb8 ⟨64,1,1,1024,2⟩
def nxt (H:Hw)(kind size addr:Int):Hw×Int×Int:=(WeM H 0 kind size (if kind=0 then 8 else 0) addr).getD (H,0,99)
def w1:Hw×Int×Int:=nxt w0 0 24 0
def w2:Hw×Int×Int:=nxt w1.1 0 300 0
def w2s:Hw:={w2.1 with sp:=Ug w2.1.sp w2.2.1 4096 3}
def w3:Hw×Int×Int:=nxt w2s 1 0 4096
def w4:Hw×Int×Int:=nxt w3.1 0 16 0
def abc:ByteArray:=ByteArray.mk #[97,98,99]
def w5:Hw:={w4.1 with sp:=putS w4.1.sp w4.2.1 abc 1}
theorem WnS {H:Hw}{kind size addr:Int}(h:(nxt H kind size addr).2.2≠99):KR H 0 kind size (if kind=0 then 8 else 0) addr (nxt H kind size addr).1 (nxt H kind size addr).2.1 (nxt H kind size addr).2.2:=by
 unfold nxt at *;cases hw:WeM H 0 kind size (if kind=0 then 8 else 0) addr with
 | none=>rw[hw]at h;exact absurd rfl h
 | some r=>exact WiV hw
theorem Woe:w1.2=(4096,0):=by decide +kernel
theorem w1_u:Yj w1.1 4096=some 24/\Z7 w1.1 0=0/\KI w1.1.tb 20 8=(24,0):=by decide +kernel
theorem w2_e:w2.2.2=0:=by decide +kernel
theorem WjB:w2.2.1=5120/\Yj w2.1 5120=some 320/\KI w1.1.tb 300 8=(320,0):=by decide +kernel
theorem Wna:w4.2=(4352,0):=by decide +kernel
theorem Wip:Kb w5.sp 4352=3/\Kb w5.sp 4360=6513249/\(getV w5 4352).toList=abc.toList/\getE w5 4352=0/\Yj w5 4352=some 16:=by decide +kernel
theorem WmL:Z7 w0 0=0/\KI w0.tb 24 8=(24,0)/\Z7 w3.1 0=0:=by decide +kernel
theorem WnM:Qr (tb8.map clsT)=true:=by decide +kernel
theorem w0_c:CfOk w0:=⟨by decide,by decide +kernel,WnM⟩
theorem nxtW {H:Hw}{kind size addr al a e:Int}{N:Hw×Int×Int}(hN:N=nxt H kind size addr)(h:N.2=(a,e))(hne:e≠99)(hal:al=if kind=0 then 8 else 0):KR H 0 kind size al addr N.1 a e:=by
 have h1:=WnS (H:=H) (kind:=kind) (size:=size) (addr:=addr) (by rw[←hN,h];exact hne);rw[←hN,h,←hal]at h1;exact h1
theorem w1_w:KR w0 0 0 24 8 0 w1.1 4096 0:=nxtW rfl Woe (by decide) rfl
theorem w2_w:KR w1.1 0 0 300 8 0 w2.1 5120 0:=nxtW rfl (Prod.ext WjB.1 w2_e) (by decide) rfl
theorem w3_2:w3.2=(0,0):=by decide +kernel
theorem w3_w:KR w2s 0 1 0 0 4096 w3.1 0 0:=nxtW rfl w3_2 (by decide) rfl
theorem w4_w:KR w3.1 0 0 16 8 0 w4.1 4352 0:=nxtW rfl Wna (by decide) rfl
theorem Wog:w2s = {w2.1 with sp:=Ug w2.1.sp 5120 4096 ((min (320:Int) 24).toNat/8)}:=by
 unfold w2s;rw[WjB.1];rfl
theorem w5_e:w5 = {w4.1 with sp:=putS w4.1.sp 4352 abc ((abc.size+7)/8)}:=by
 unfold w5;rw[Wna];rfl
theorem w0_u:Yj w0 0=none:=by decide +kernel
theorem w0_e:Uc ((WcM 8).map Qd) ⟨(64:Int).toNat,(1:Int).toNat,(1:Int).toNat,(1024:Int).toNat,(2:Int).toNat⟩=w0:=rfl
end Go.Ar
namespace Go.Proofs
open Go.Vc
set_option maxRecDepth 100000
end Go.Proofs
namespace Go.Ar
open Go Go.Vc Go.Proofs
variable {U u u':Hp}{F:Rg}{L:LayH}{H H':Hw}{N:Nat}
attribute [local irreducible] w0 w1 w2 w2s w3 w4 w5 nxt tb8
theorem cfSp (h:CfOk H)(sp:Sp):CfOk {H with sp:=sp}:=⟨h.1,h.2.1,h.2.2⟩
theorem HH.norm (h:HH u (λb=>N<=b) L H)(hN:N<=u.size){L':LayH}(h':HH u' (Grow (λb=>N<=b) u) L' H'):HH u' (λb=>N<=b) L' H':=
 h'.mono (λb _ hb=>by
  have hb:N<=b\/u.size<=b:=hb;show N<=b;omega) h.o h.o2
theorem WjK (g:Gl U)(gd:Gd U){R:Option Addr->Hp->Prop}(hR:∀σ' L N,Ext0 U σ'->U.size<=N->N<=σ'.size->HH σ' (λb=>N<=b) L w0->R (some ⟨L.p,0,none⟩) σ'):Xz.c U R:=by
 refine Xz.o ?_;unfold Xz.v;refine Wu.o ?_;unfold Wu.v;refine nw (cs:=[.int .i64 8,.int .i64 64,.int .i64 1,.int .i64 1,.int .i64 1024,.int .i64 2]) λv hz e hb=>hb.rI rfl ?_;refine Wi4 8 (by decide) (by decide) λs v1 e1 ha=>?_;have hb1:=e1.blk hb id;have e01:=e.trans e1;refine hb1.rI2 rfl (hb1.rI2 rfl (hb1.rI2 rfl (hb1.rI2 rfl (hb1.rI2 rfl ?_))));refine Wex ha (g.keep0 e01) (gd.keep0 e01) 64 1 1 1024 2 (λhv=>?_) (λ_ hc=>?_) λ_ _ v2 L e2 h2=>?_
 ·have:=Wbt 8 (by decide) (by decide);rw[show((8:Nat):Int)=8 from rfl]at this;rw[this]at hv;cases hv
 ·exact absurd hc (by decide)
 ·rw[w0_e]at h2;exact ifF rfl (hR v2 L v1.size (e01.trans e2) e01.1 e2.1 h2)
set_option maxRecDepth 8000 in
theorem UB (g:Gl U)(gd:Gd U){R:Bool->Hp->Prop}(hR:∀σ',Ext0 U σ'->R true σ'):WM.c U R:=by
 refine WM.o ?_;unfold WM.v;refine WjK g gd λv L N e hsN hNv h0=>ifF rfl ?_;have c0:=w0_c;refine WaE h0 c0 24 8 λv1 e1=>?_;have h1:=h0.keep0 e1;have n1:N<=v1.size:=zN hNv e1.1;rw[WmL.2.1];have hw1:=w1_w;refine UC Wcb h1 c0 (ReaR.first WmL.1 rfl (by decide) (by decide) hw1) (λb hb=>?_) λv2 ts2 e2 h2'=>?_
 ·rw[w0_u]at hb;cases hb
 have h2:=h1.norm n1 h2';have n2:N<=v2.size:=zN n1 e2.1;have c1:=c0.keep (VP hw1);have hu1:∀b,Yj w1.1 4096=some b->0<=b/\b<=1000000000:=λb hb=>by
  rw[w1_u.1]at hb;cases hb;decide
 refine UC Wcb h2 c1 (ReaR.same (u:=24) w1_u.2.1 (by decide) (by decide) (by decide) w1_u.1 (by rw[w1_u.2.2];decide)) hu1 λv3 ts3 e3 h3'=>?_;have h3:=h2.norm n2 h3';have n3:N<=v3.size:=zN n2 e3.1;have hw2:=w2_w;have hw3:=w3_w;rw[Wog]at hw3;refine UC Wcb h3 c1 (ReaR.moved (u:=24) (u2:=320) w1_u.2.1 (by decide) (by decide) (by decide) w1_u.1 (by rw[WjB.2.2];decide) hw2 WjB.2.1 (by decide) (by decide) (by decide) hw3) hu1 λv4 ts4 e4 h4'=>?_;have h4:=h3.norm n3 h4';have n4:N<=v4.size:=zN n3 e4.1;have c2:=c1.keep (VP hw2);have c3:CfOk w3.1:=CfOk.keep (H:={w2.1 with sp:=Ug w2.1.sp 5120 4096 ((min (320:Int) 24).toNat/8)}) (cfSp c2 _) (VP hw3);have hw4:KR w3.1 0 0 ((((abc.size+7)/8+1)*8:Nat):Int) 8 0 w4.1 4352 0:=w4_w;refine Wlr Wcb h4 c3 (s:=abc) (PutR.ok WmL.2.2 (by decide) hw4 (by decide) (by decide)) λv5 ts5 e5 h5'=>?_;rw[←w5_e]at h5';have h5:=h4.norm n4 h5';have n5:N<=v5.size:=zN n4 e5.1;have c5:CfOk w5:=by rw[w5_e];exact cfSp (H:=w4.1) (CfOk.keep (H:=w3.1) c3 (VP hw4)) _
 have e05:Ext0 U v5:=by
  have q1:=e.trans e1;have q2:=Ext.newT q1 e2 λb hb=>.inr (by show U.size<=b;have:N<=b:=hb;omega);have q3:=Ext.newT q2 e3 λb hb=>.inr (by show U.size<=b;have:N<=b:=hb;omega);have q4:=Ext.newT q3 e4 λb hb=>.inr (by show U.size<=b;have:N<=b:=hb;omega);exact Ext.newT q4 e5 λb hb=>.inr (by show U.size<=b;have:N<=b:=hb;omega)
 refine Vi h5 4352 (by decide) λv6 e6=>?_;rw[Wip.1];refine ar (by decide) (by decide) (Vi (h5.keep0 e6) 4360 (by decide) λv7 e7=>?_);rw[Wip.2.1];refine WmQ ((h5.keep0 e6).keep0 e7) c5 4352 (by decide) (λu hu=>?_) (λ_=>by decide) λv8 e8=>?_
 ·rw[Wip.2.2.2.2]at hu;cases hu;decide
 rw[Wip.2.2.2.1];have hfin:=hR v8 (((e05.trans e6).trans e7).trans e8);refine JnB.intro (ifT rfl (JnB.intro (ifT rfl (JnB.intro (ifT rfl (JnB.intro (ifT rfl (JnB.intro (ifT rfl (JnB.intro (ifT rfl (JnB.intro (ifT rfl (JnB.intro (ifT rfl (JnB.intro (ifT rfl (JnB.intro (ifT rfl (JnB.intro (ifT rfl (JnB.intro (ifT ?_ (JnB.intro (ifT ?_ hfin)))))))))))))))))))))))))
 ·rfl
 ·rw[Wip.2.2.1];decide +kernel
end Go.Ar
namespace Go.Proofs
open Go.Vc
set_option maxRecDepth 100000
end Go.Proofs
namespace Go.Ar
open Go Go.Vc Go.Proofs
open Go.Vc (mget mset mdel)
variable {U w w':Hp}{F P Q X:Rg}{L:LayH}{H H':Hw}{held:List Pc}{s0:Sp}{t n:Nat}{g:Th}{σ0:Hp}{addrs:Sl}{ad:List Int}{l:Sl}{ds:List Deed}
theorem PlayOk.push (p:PlayOk σ0 U L H held s0 P Q addrs ad){s':Sl}{x:Int}(e:Ext Q U w)(hr:RowR s' 1 (Wx (ad++[x])) w (λb=>Q b\/U.size<=b/\b<w.size))(hl:(ad++[x]).length<=60):PlayOk σ0 w L H held s0 P (λb=>Q b\/U.size<=b/\b<w.size) s' (ad++[x]):=by
 have hz:=e.1;have hz0:=p.e.1;refine⟨Ext.newT p.e e λb hb=>.inr (p.pQ b hb).1,p.h.keep e (λb hb hp hq=>(p.pQ b hq).2.2 hp) (λb hb=>p.g0.1 b (p.pQ b hb).1) (λhb=>p.g0.2 (p.pQ _ hb).1),p.hi,p.cf,p.pg,λb hb=>⟨(p.pP b hb).1,by have:=(p.pP b hb).2;omega⟩,λb hb=>?_,hr,hl,p.g0⟩;rcases hb with hb|hb
 ·exact⟨(p.pQ b hb).1,by have:=(p.pQ b hb).2.1;omega,(p.pQ b hb).2.2⟩
 ·exact⟨by omega,hb.2,λhp=>by have:=(p.pP b hp).2;omega⟩
theorem Wgy (hd:Deeds σ0 l ds)(e:Ext0 σ0 U)(most:Int){R:Bool->Hp->Prop}(hR:∀r,(r=false->(ds.length:Int)<=most)->R r U):Xx.c l most U R:=by
 refine Xx.o ?_;unfold Xx.v;have hl:=hd.len;have hbig:=hd.big;refine WmW (ifD (λh1=>hR true λh=>by cases h) λh1=>?_);refine Vm (a:=.i .i64) (bb:=.i .i64) (λ(m z:Int) w=>w=U/\∃i:Nat,z=i/\i<=ds.length) (λ_ z _=>ds.length-z.toNat) ⟨rfl,0,rfl,by omega⟩ ?_;rintro(m:Int) (z:Int) w ⟨rfl,i,rfl,hi⟩;refine ifD (λhlt=>?_) λhge=>hR false λ_=>by omega
 have hx:ds[i]?=some (ds[i]'(by omega)):=gGe _;refine hd.rd e hx λb o hc=>?_;refine ldT0 (hc _ e 7 _ rfl) (arW (ifD (λh5=>hR true λh=>by cases h) λh5=>ar (by omega) (by omega) ⟨⟨rfl,i+1,by omega,by omega⟩,by omega⟩))
set_option maxRecDepth 8000 in
theorem WlT (gl:Gl U)(gd:Gd U)(b b1 b2 b3 b4 b5:Int)(hd:Deeds U l ds)(most:Int)(hmost:most<=60){R:Option Addr->Sl->Hp->Prop}(h0:∀σ',Ext0 U σ'->R none ⟨none,0,0⟩ σ')
 (h1:∀σ' L H held s0 P Q addrs ad,PlayOk U σ' L H held s0 P Q addrs ad->R (some ⟨L.p,0,none⟩) addrs σ'):XT.c b b1 b2 b3 b4 b5 l most U R:=by
 refine XT.o ?_;unfold XT.v;have hl:=hd.len;have hbig:=hd.big;refine nw (cs:=[.int .i64 b,.int .i64 b1,.int .i64 b2,.int .i64 b3,.int .i64 b4,.int .i64 b5]) λv hz e hb=>hb.rI rfl (hb.rI rfl (hb.rI rfl (hb.rI rfl (hb.rI rfl (hb.rI rfl (WR.o ?_))))));unfold WR.v;refine nw (cs:=[.int .i64 b,.int .i64 b1,.int .i64 b2,.int .i64 b3,.int .i64 b4,.int .i64 b5]) λv1 hz1 e1 hb1=>hb1.rI2 rfl ?_;have e01:=e.trans e1;have hbv:=e1.blk hb id;refine QM (λr w=>w=v1/\(r=false->b1<=128/\(ds.length:Int)<=most)) (λr w ⟨hw,hr⟩=>?_) λJ hJ=>ifD (λh=>hJ _ _ ⟨rfl,λh=>by cases h⟩) λh=>Wgy hd e01 most λr hr=>hJ _ _ ⟨rfl,λh'=>⟨by omega,hr h'⟩⟩;subst hw;refine iff_ (λht=>h0 w e01) λhf=>?_;obtain⟨hpg,hlm⟩:=hr hf;refine hbv.rI rfl (hbv.rI rfl (hbv.rI rfl (hbv.rI rfl (hbv.rI rfl (hbv.rI rfl ?_)))));refine Wnt (gl.keep0 e01) (gd.keep0 e01) b b1 b2 b3 b4 b5 (λv2 e2=>ifT rfl (h0 v2 (e01.trans e2))) λv2 L0 N H0 e2 hsN hNv hh hn=>ifF rfl ?_;have e02:=e01.trans e2;have p0:PlayOk U v2 L0 H0 [] (Vn H0.cf.pages) (Cut (λb=>N<=b) v2) (λ_=>False) ⟨none,0,0⟩ []:=
  ⟨e02,hh.cut,hn.hi,hn.cf,by have:=hn.pg;omega,λb hb=>⟨by have:=e01.1;have:N<=b:=hb.1;omega,hb.2⟩,λb hb=>hb.elim,⟨rfl,.inl ⟨rfl,rfl⟩⟩,by simp,WnH gl gd⟩
 refine Vm (a:=.s) (bb:=.i .i64) (λ(addrs:Sl) (z:Int) w=>∃(i:Nat) (L:LayH) (H:Hw) (held:List Pc) (s0:Sp) (P Q:Rg) (ad:List Int),z=i/\i<=ds.length/\ad.length<=i/\L.p=L0.p/\PlayOk U w L H held s0 P Q addrs ad) (λ_ z _=>ds.length-z.toNat) ⟨0,L0,H0,_,_,_,_,[],rfl,by omega,by simp,rfl,p0⟩ ?_;rintro(addrs:Sl) (z:Int) w ⟨i,L,H,held,s0,P,Q,ad,rfl,hi,hal,hLp,p⟩;refine ifD (λhlt=>?_) λhge=>by rw[←hLp];exact h1 w L H held s0 P Q addrs ad p
 have hx:ds[i]?=some (ds[i]'(by omega)):=gGe _;have hdi:=hd.i _ (zE hx);refine hd.rd p.e hx λba oa hc=>ldI0 (hc _ p.e 0 _ rfl) (ifD (λh20=>?_) λh20=>?_)
 ·exact arN (m:=i+1) (by omega) (by omega) ⟨⟨i+1,L,H,held,s0,P,Q,ad,rfl,by omega,by omega,hLp,p⟩,by omega⟩
 ·refine hd.rd p.e hx λba oa hc=>ldI0 (hc _ p.e 0 _ rfl) (ldI0 (hc _ p.e 1 _ rfl) (ldI0 (hc _ p.e 2 _ rfl) (ldI0 (hc _ p.e 3 _ rfl) (ldI0 (hc _ p.e 4 _ rfl) (ldI0 (hc _ p.e 5 _ rfl) (ldI0 (hc _ p.e 6 _ rfl) (ldT0 (hc _ p.e 7 _ rfl) ?_)))))));rw[←hLp];refine Woc p.h p.hi p.cf (by have:=p.pg;omega) (RowR.slR p.row) _ hdi λa er nn w3 ts3 H3 e3 h3 de=>?_;obtain⟨held3,s3,hi3⟩:=de.hi;have p3:=p.step e3 h3 hi3 de.kp;refine ifD (λhpos=>?_) λhneg=>?_
  ·refine Woa p3.row (by omega) nn λs' w4 e4 hr4=>?_;have p4:=p3.push e4 hr4 (by simp;omega);exact arN (m:=i+1) (by omega) (by omega) ⟨⟨i+1,{L with ts:=ts3},_,_,_,_,_,ad++[nn],rfl,by omega,by simp;omega,rfl,p4⟩,by omega⟩
  ·exact arN (m:=i+1) (by omega) (by omega) ⟨⟨i+1,{L with ts:=ts3},_,_,_,_,_,ad,rfl,by omega,by omega,rfl,p3⟩,by omega⟩
theorem Wm8 {tb:List Cls}{size align:Int}{k:Nat}(h:clsV tb size align=some k):∃c,tb[k]?=some c/\size<=(c.size:Int)/\(c.size:Int)%align=0:=by
 unfold clsV at h;obtain⟨hk,hp,_⟩:=zBE.1 h;simp only[zF,zQ,zY]at hp;exact⟨tb[k],gGe hk,hp.1,hp.2⟩
theorem Wic {tb:List Cls}{size align:Int}(h:size<=16384/\Ku size align=true):size<=(KI tb size align).1/\(KI tb size align).2=0:=by
 unfold KI;rw[zA h];refine⟨?_,rfl⟩;cases hc:clsV tb size align with
 | some k=>
  obtain⟨c,h1,h2,_⟩:=Wm8 hc;simp only;rw[zL,h1];exact h2
 | none=>simp only;unfold WaW;omega
theorem WbT {live:List (Int×Bk)}{x:Int}(b:Bk):mget (mset live x b) x=some b:=by rw[U7,zA rfl]
end Go.Ar
namespace Go.Ar
open Go Go.Vc Go.Proofs
variable {U u w w':Hp}{F B P Q:Rg}{L:LayH}{H H':Hw}{t n:Nat}{g:Th}
end Go.Ar
namespace Go.Proofs
open Go.Vc
set_option maxRecDepth 100000
end Go.Proofs
namespace Go.Ar
open Go Go.Vc Go.Proofs
open Go.Vc (mget mset mdel)
variable {U w w':Hp}{F P Q X S:Rg}{L:LayH}{H H':Hw}{held:List Pc}{s0 sp:Sp}{t n:Nat}{g:Th}{σ0:Hp}{addrs:Sl}{ad:List Int}{l:Sl}{ds:List Deed}
def wrS (sp:Sp)(a:Int)(f:Nat->Int)(n:Nat):Sp:=(List.range n).foldl (λs (i:Nat)=>Kt s (a+(i:Int)*8) (f i)) sp
theorem We2 (sp:Sp)(a:Int)(f:Nat->Int)(n:Nat):wrS sp a f (n+1)=Kt (wrS sp a f n) (a+(n:Int)*8) (f n):=by
 unfold wrS;rw[zt,zAE];rfl
theorem WdO {sp:Sp}{x:Nat}:accE sp ((8*x:Nat):Int)=0↔gf sp.st (x/32)≠0:=by
 unfold accE;rw[zB (by omega),show((8*x:Nat):Int).toNat/256=x/32 by omega];unfold gf;split
 ·rename_i h;rw[h];simp
 ·rename_i h;exact⟨λ_=>h,λ_=>rfl⟩
theorem Wld (sp:Sp)(a:Nat)(f:Nat->Int):∀n:Nat,(wrS sp ((8*a:Nat):Int) f n).st.length=sp.st.length/\(∀p,gf (wrS sp ((8*a:Nat):Int) f n).st p=0↔gf sp.st p=0) ∧
 ∀w,(wrS sp ((8*a:Nat):Int) f n).wd w=if a<=w/\w<a+n/\gf sp.st (w/32)≠0 then f (w-a)else sp.wd w
 | 0=>⟨rfl,λ_=>Iff.rfl,λw=>by rw[zB (by omega)];rfl⟩
 | n+1=>by
  obtain⟨i1,i2,i3⟩:=Wld sp a f n;rw[We2,show((8*a:Nat):Int)+(n:Int)*8=((8*(a+n):Nat):Int) by omega];obtain⟨j1,j2,j3⟩:=Wav (wrS sp ((8*a:Nat):Int) f n) ((8*(a+n):Nat):Int) (f n);refine⟨j1.trans i1,λp=>(j2 p).trans (i2 p),λw=>?_⟩;rw[j3,i3,show((8*(a+n):Nat):Int).toNat/8=a+n by omega];have hacc:=WdO (sp:=wrS sp ((8*a:Nat):Int) f n) (x:=a+n);have hz:=i2 ((a+n)/32);by_cases hw:w=a+n
  ·subst hw;by_cases hm:gf sp.st ((a+n)/32)=0
   ·rw[zB λh=>hacc.1 h.1 (hz.2 hm),zB (by omega),zB λh=>h.2.2 hm]
   ·rw[zA ⟨hacc.2 λh=>hm (hz.1 h),rfl⟩,zA ⟨by omega,by omega,hm⟩]
    congr 1;omega
  ·rw[zB λh=>hw h.2];by_cases hc:a<=w/\w<a+n/\gf sp.st (w/32)≠0
   ·rw[zA hc,zA ⟨hc.1,by omega,hc.2.2⟩]
   ·rw[zB hc,zB λh=>hc ⟨h.1,by omega,h.2.2⟩]
theorem HI.wr (h:HI H held s0)(a:Int)(f:Nat->Int)(n:Nat):∃s0',HI {H with sp:=wrS H.sp a f n} held s0':=by
 induction n with
 | zero=>exact⟨s0,h⟩
 | succ n ih=>
  obtain⟨s0',h'⟩:=ih;rw[We2];exact⟨_,h'.write (a+(n:Int)*8) (f n)⟩
theorem WdP (sp:Sp)(x:Nat):Kb sp ((8*x:Nat):Int)=if gf sp.st (x/32)≠0 then sp.wd x else 0:=by
 unfold Kb;by_cases h:gf sp.st (x/32)≠0
 ·rw[zA (WdO.2 h),zA h];congr 1;omega
 ·rw[zB (λhx=>h (WdO.1 hx)),zB h]
def Gj (H:Hw)(a:Int):List Int:=(List.range (((Yj H a).getD 0).toNat/8)).map λ(i:Nat)=>Kb H.sp (a+(i:Int)*8)
theorem Wbv (h:HH U F L H){a u:Int}(hu:Yj H a=some u)(h0:0<=u)(h1:u<=1000000)(ha0:0<=a)(ha1:a<=500000000000){R:Sl->Hp->Prop}
 (hR:∀s σ',Ext0 U σ'->RowR s 1 (Wx (Gj H a)) σ' (λb=>U.size<=b/\b<σ'.size)->R s σ'):Xf.c (some ⟨L.p,0,none⟩) a U R:=by
 refine Xf.o ?_;unfold Xf.v;refine Qj h a λv e=>?_;rw[hu];simp only[zAL];refine Vm (a:=.s) (bb:=.i .i64) (λ(out:Sl) (z:Int) w=>∃(i:Nat) (Q:Rg),z=a+(i:Int)*8/\(i:Int)*8<=u/\Ext0 U w/\RowR out 1 (Wx ((List.range i).map λ(i:Nat)=>Kb H.sp (a+(i:Int)*8))) w Q/\∀b,Q b->U.size<=b/\b<w.size) (λ_ z _=>(a+u+8-z).toNat) ⟨0,λ_=>False,by omega,by omega,e,⟨rfl,.inl ⟨rfl,rfl⟩⟩,λb hb=>hb.elim⟩ ?_;rintro(out:Sl) (z:Int) w ⟨i,Q,rfl,hi,ew,hr,hQ⟩;refine ar (by omega) (by omega) (ar (by omega) (by omega) (ifD (λhle=>?_) λhgt=>?_))
 ·refine Vi (h.keep0 ew) _ (by omega) λv2 e2=>?_;have hr2:=(RowR.loc _ _ _).keep0 hr e2;refine Woa hr2 (by simp;omega) _ λs' v4 e4 hr4=>?_;have hz2:=e2.1;have hz4:=e4.1;have hzw:=ew.1;refine ar (by omega) (by omega) ⟨⟨i+1,_,by omega,by omega,Ext.newT (ew.trans e2) e4 λb hb=>.inr (hQ b hb).1,by rw[zt,zAJ];exact hr4,λb hb=>?_⟩,by omega⟩;rcases hb with hb|hb
  ·have:=hQ b hb;omega
  ·omega
 ·refine hR out w ew ?_;have hlen:u.toNat/8=i:=by omega
  unfold Gj;rw[hu];simp only[zAL];rw[hlen];exact(RowR.loc _ _ _).mono hr λb _ hb=>hQ b hb
structure HpOk (H H':Hw):Prop where
 hi:∃held s0,HI H' held s0
 kp:Z1 H' H
theorem OpOk.hp (o:OpOk H H'):HpOk H H':=⟨o.hi,o.kp⟩
theorem HI.usable (h:HI H held s0){a u:Int}(hu:Yj H a=some u):8<=u/\u%8=0/\0<=a/\a%8=0/\a+u<=270000/\∃b,mget H.live a=some b/\b.2.1=u:=by
 unfold Yj at hu;obtain⟨b,hb,hbu⟩:=zBW.1 hu;have h8:=h.size8 (Vz hb);simp only at h8;rw[hbu]at h8;exact⟨h8.1,h8.2.2.2.1,h8.2.1,h8.2.2.1,h8.2.2.2.2,b,hb,hbu⟩
end Go.Ar
namespace Go.Proofs
open Go.Shelf
def Tryz.keysBL_ren:Go.Shelf.Ren:=⟨fun|7=>59|10=>85|n=>n,fun|23=>30|26=>3|3=>65|28=>104|0=>0|27=>103|33=>130|4=>4|n=>n,fun|n=>n⟩
theorem Tryz.keysBL:Go.Proofs.SlLaysZI.n7 Tryz.prog Tryz.keysBL_ren:={
 mixed:=by kernel_rfl
 f7:=⟨Tryz.f59.name,by decide,Tryz.func59.trans (congrArg some (by kernel_rfl))⟩
 f10:=⟨Tryz.f85.name,by decide,Tryz.func85.trans (congrArg some (by kernel_rfl))⟩
 t0:=Tryz.underlying0
 a0:=Tryz.isAgg0
 z0:=Tryz.sizeOf0
 v0:=Tryz.zeroValue0
 t4:=Tryz.underlying4
 a4:=Tryz.isAgg4
 z4:=Tryz.sizeOf4
 v4:=Tryz.zeroValue4
 t23:=Tryz.underlying30
 a23:=Tryz.isAgg30
 z23:=Tryz.sizeOf30
 v23:=Tryz.zeroValue30
 t26:=Tryz.underlying3
 a26:=Tryz.isAgg3
 z26:=Tryz.sizeOf3
 v26:=Tryz.zeroValue3
 t27:=Tryz.underlying103
 a27:=Tryz.isAgg103
 z27:=Tryz.sizeOf103
 v27:=Tryz.zeroValue103
 t28:=Tryz.underlying104
 a28:=Tryz.isAgg104
 z28:=Tryz.sizeOf104
 v28:=Tryz.zeroValue104
 t33:=Tryz.underlying130
 a33:=Tryz.isAgg130
 z33:=Tryz.sizeOf130
 v33:=Tryz.zeroValue130}
end Go.Proofs
namespace Go.Ar
open Go Go.Vc Go.Proofs Go.RowKit Go.Maps Go.Sort Go.Shelf
open Go.Vc (mget mset mdel)
open Go.Bu (SlF Wcg H8 Wcc UW Wn7)
variable {U w w':Hp}{F P Q X S:Rg}{L:LayH}{H H':Hw}{held:List Pc}{s0 sp:Sp}{t n:Nat}{g:Th}{σ0:Hp}
def Gi:Nat:=Tryz.keysBL_ren.f 10
def WdW:Nat:=Tryz.keysBL_ren.t 23
theorem WkS (m:Option Nat){R:Fv->Hp->Prop}(hR:R ⟨Gi,#[],#[.pointer (some ⟨U.size,0,none⟩)]⟩ (U.push (.cells #[.map m] WdW (0,0)))) :
 Zz.c m U R:=by
 rintro w rfl;refine(callsIn_wide.1 (AnyZI.keys_in Tryz.keysBL Fence.wide 5 trivial rfl m w)).mono ?_;rintro e w' ⟨rfl,rfl⟩;exact⟨⟨rfl,rfl,rfl,zCG (by show _<(w.heap.push _).size;simp)⟩,[.func (.func Gi) #[] #[.pointer (some ⟨w.heap.size,0,none⟩)]],rfl,⟨Gi,#[],#[.pointer (some ⟨w.heap.size,0,none⟩)]⟩,rfl,hR⟩
theorem WiY {w:World}{c m:Nat}{B:List (Int×Bk)}(hc:cell w.heap ⟨c,0,none⟩=some (.map (some m)))(hm:MapL w.heap m .i64 (.ag 4) B)(hb:∀x∈B,Go.Bu.I64 x.1)(hs:B.length<=1000000)(n:Nat)(hn:1<=n) :
 SeqGives Fence.wide n Tryz.prog Gi #[.pointer (some ⟨c,0,none⟩)] encZ (λss=>ss.Perm (B.map (·.1))) B.length w:=by
 obtain⟨D,hD,hp,hsz⟩:=UW (P:=Tryz.prog) Tryz.keysBL.t26 hm hb hs;have hcl:c<w.heap.size:=by
  unfold cell at hc;split at hc
  ·rename_i h;exact(zAK.1 h).1
  ·cases hc
 have:=AnyZI.keys_gives (ρ:=Tryz.keysBL_ren) {Tryz.keysBL with} Fence.wide n trivial rfl hn c m B.length D w hcl hc hD;intro l J W hW hJ hY h0;rw[hsz]at this;refine(this l J W hW hJ hY h0).mono ?_;rintro e W' ⟨he,ss,h1,h2⟩;exact⟨he,ss,h1.trans hp,h2⟩
theorem Wf1 {c m:Nat}{B:List (Int×Bk)}(hc:cell U ⟨c,0,none⟩=some (.map (some m)))(hm:MapL U m .i64 (.ag 4) B)(hb:∀x∈B,Go.Bu.I64 x.1)(hs:B.length<=1000000){R:Sl->Hp->Prop}
 (hR:∀(s:Sl) (σ':Hp) (ss:List Int),Ext0 U σ'->ss.Perm (B.map (·.1))->ss.Pairwise (· <= ·)->SlF U.size σ' s (ss.map (Value.int .i64))->R s σ') :
 VK.c ⟨Gi,#[],#[.pointer (some ⟨c,0,none⟩)]⟩ U R:=by
 rintro w rfl;have hseq:=WiY hc hm hb hs 2 (by omega);have hml:B.length<=maxLen:=by unfold maxLen;omega
 have cS:=AnyZI.sorted_in Tryz.sortedL Fence.wide 5 trivial trivial trivial trivial rfl (by omega) (Wn7 _) (Tryz.sortL.f5.enters rfl) Gi #[.pointer (some ⟨c,0,none⟩)] trivial (Tryz.keysBL.f10.enters rfl) _ _ hml (by omega) _ hseq;refine(callsIn_wide.1 cS).mono ?_;rintro e w' ⟨v,ss,rfl,hp,hrow,hnil,hbe⟩;obtain⟨s,rfl,hsl⟩:=Wcg hrow;refine⟨Wcc hbe,[.slice s.a s.len s.cap],rfl,s,rfl,?_⟩;refine hR s _ (ss.mergeSort λx y=>decide (x<=y)) (H8 hbe) ((List.mergeSort_perm _ _).trans hp) ?_ hsl;have:=List.pairwise_mergeSort (le:=λx y:Int=>decide (x<=y)) (λa b c h1 h2=>by simp at *;omega) (λa b=>by simp;omega) ss;exact this.imp (λh=>by simpa using h)
def bkV (b:Bk):List Value:=[.int .i64 b.1,.int .i64 b.2.1,.int .i64 b.2.2.1,.int .i64 b.2.2.2]
def bksV (bs:List Bk):List Value:=bs.flatMap bkV
theorem UG (bs:List Bk):(bksV bs).length=bs.length*4:=by
 unfold bksV
 induction bs with
 | nil=>rfl
 | cons b bs ih=>rw[zBK,zP,ih];simp[bkV];omega
theorem Wb0:∀{bs:List Bk} {i:Nat} {b:Bk},bs[i]?=some b->∀{j:Nat} {v:Value},(bkV b)[j]?=some v->(bksV bs)[4*i+j]?=some v
 | [],i,b,h,_,_,_=>by simp at h
 | a::bs,0,b,h,j,v,hv=>by
  simp only[zFI,Option.some.injEq]at h;subst h;have hj:=(gSi.1 hv).1;show(bkV a++bksV bs)[4*0+j]?=_;rw[show 4*0+j=j by omega,zh hj];exact hv
 | a::bs,i+1,b,h,j,v,hv=>by
  have ih:=Wb0 (bs:=bs) (i:=i) (b:=b) (by simpa using h) hv;show(bkV a++bksV bs)[4*(i+1)+j]?=_;rw[zl (by simp[bkV];omega)];have:4*(i+1)+j-(bkV a).length=4*i+j:=by simp[bkV];omega
  rw[this];exact ih
structure LiveL (live:List (Int×Bk)) (bs:List Bk):Prop where
 len:bs.length=live.length
 mem:∀b,b∈bs↔(b.1,b)∈live
 srt:bs.Pairwise λa b=>a.1<b.1
theorem HI.live_len (h:HI H held s0):H.live.length<=1000000:=by
 have hn:(H.live.map λe=>e.1.toNat).Nodup:=by
  have h1:=zv.1 h.lk;refine zv.2 λi j hi hj hij e=>?_;have hi':i<H.live.length:=by simpa using hi
  have hj':j<H.live.length:=by simpa using hj
  refine h1 i j (by simpa using hi') (by simpa using hj') hij ?_;simp only[zCJ]at e ⊢;have a1:=(h.size8 (zf hi')).2.1;have a2:=(h.size8 (zf hj')).2.1;omega
 have:=Wb6 270000 _ hn λx hx=>by
  obtain⟨e,he,rfl⟩:=zD.1 hx;have:=h.size8 he;omega
 have hl:(H.live.map λe=>e.1.toNat).length=H.live.length:=by simp
 omega
theorem SlR.of_slF {B:Nat}{s:Sl}{xs:List Value}(h:SlF B U s xs):SlR s 1 xs U (λb=>B<=b):=by
 refine⟨by have:=h.1;omega,?_⟩;rcases h.2 with⟨h0,_⟩|⟨b,cs,hb,ha,hk,hc⟩
 ·exact .inl h0
 ·exact .inr ⟨b,0,cs,hb,ha,hk.q,λj hj=>by rw[zI];exact hc j hj⟩
set_option maxRecDepth 8000 in
theorem GP (h:HH U F L H)(hi:HI H held s0){R:Sl->Hp->Prop}(hR:∀s σ' bs,Ext0 U σ'->LiveL H.live bs->RowR s 4 (bksV bs) σ' (λb=>U.size<=b)->R s σ'):Yu.c (some ⟨L.p,0,none⟩) U R:=by
 refine Yu.o ?_;unfold Yu.v;have hi64:∀x∈H.live,Go.Bu.I64 x.1:=λx hx=>by have:=hi.size8 hx;unfold Go.Bu.I64;omega
 have hll:=hi.live_len;refine Q6 h (ifF rfl (nilP (h.hd.rM rfl (WkS _ ?_))));have e1:Ext0 U (U.push (.cells #[.map (some L.lm)] WdW (0,0))):=Ext.push _ _ _;have h1:=h.keep0 e1;refine Wf1 (by unfold cell;simp) h1.liveM hi64 hll λs v2 ss e2 hp hsrt hs=>?_;have e02:=e1.trans e2;have hss:=SlR.of_slF hs;have hnd:ss.Nodup:=hp.nodup_iff.2 hi.lk;have hslen:ss.length=H.live.length:=by rw[hp.length_eq];simp
 have hsl:s.len=ss.length:=by have:=hss.1;simp at this;omega
 have hget:∀x∈ss,∃b,mget H.live x=some b/\b.1=x:=λx hx=>by
  obtain⟨e,he,rfl⟩:=zD.1 (hp.mem_iff.1 hx);exact⟨e.2,Vk hi.lk he,(hi.lv e he).1⟩
 let f:Int->Bk:=λx=>(mget H.live x).getD (0,0,0,0)
 have hf1:∀x∈ss,(f x).1=x/\mget H.live x=some (f x):=λx hx=>by
  obtain⟨b,hb,hbx⟩:=hget x hx;have:f x=b:=by show(mget H.live x).getD _=b;rw[hb];rfl
  rw[this];exact⟨hbx,hb⟩
 have hz1:U.size<v2.size:=by
  have h1:=e2.1;have h2:(U.push (.cells #[.map (some L.lm)] WdW (0,0))).size=U.size+1:=by simp
  omega
 refine Vm (a:=.s) (bb:=.i .i64) (λ(out:Sl) (z:Int) w=>∃i:Nat,z=i/\i<=ss.length/\Ext0 v2 w/\RowR out 4 (bksV ((ss.take i).map f)) w (λb=>v2.size<=b)) (λ_ z _=>ss.length-z.toNat) ⟨0,rfl,by omega,Ext.refl _ _,⟨by simp[bksV],.inl ⟨rfl,rfl⟩⟩⟩ ?_;rintro(out:Sl) (z:Int) w ⟨i,rfl,hil,ew,hr⟩;have hw:=h1.keep0 (e2.trans ew);refine ifD (λhlt=>?_) λhge=>?_
 ·have hx:ss[i]?=some (ss[i]'(by omega)):=gGe _;have hol:out.len=i:=by have:=hr.1;rw[UG]at this;simp at this;omega
  refine((SlR.loc _ _ _).keep0 ((SlR.loc _ _ _).cut hss) ew).ixI hx (nilP (hw.hd.rM rfl ⟨H.live,hw.liveM,?_⟩));refine hr.push (F:=λb=>v2.size<=b) (vs:=bkV (f (ss[i]'(by omega)))) (λb hb=>by have:=ew.1;omega) rfl rfl (by simp[bkV,one1]) (by omega) (by omega) λs' w' hsl' ew' hr'=>?_;have e3:Ext0 v2 w':=Ext.fresh ew ew' λb hb=>hb;refine arN (m:=i+1) (by omega) (by omega) ⟨⟨i+1,rfl,by omega,e3,?_⟩,by omega⟩;have:bksV ((ss.take (i+1)).map f)=bksV ((ss.take i).map f)++bkV (f (ss[i]'(by omega))):=by
   unfold bksV;rw[zAD,hx,zAJ,List.flatMap_append];simp only[zEW,zU,zCU,zBK,List.flatMap_nil,zAA]
  rw[this];exact hr'
 ·have hin:i=ss.length:=by omega
  subst hin;rw[zAP]at hr;refine hR out w (ss.map f) (e02.trans ew) ⟨by simp[hslen],λb=>?_,?_⟩ ((RowR.loc _ _ _).mono hr λb _ hb=>by
   show U.size<=b;have hb:v2.size<=b:=hb;omega)
  ·constructor
   ·intro hb;obtain⟨x,hx,rfl⟩:=zD.1 hb;obtain⟨q1,q2⟩:=hf1 x hx;rw[q1];exact Vz q2
   ·intro hb;have hx:b.1∈ss:=hp.mem_iff.2 (zD.2 ⟨_,hb,rfl⟩);refine zD.2 ⟨b.1,hx,?_⟩;have:=(hf1 _ hx).2;rw[Vk hi.lk hb]at this;exact(Option.some.inj this).symm
  ·rw[zDA];have hlt:ss.Pairwise (· < ·):=(hsrt.and hnd).imp λ⟨h1,h2⟩=>by
    have:_≠_:=h2;omega
   refine zv.2 λi j hi hj hij=>?_;rw[(hf1 _ (zf hi)).1,(hf1 _ (zf hj)).1];exact zv.1 hlt i j hi hj hij
end Go.Ar
namespace Go.Proofs
open Go.Vc
set_option maxRecDepth 100000
end Go.Proofs
namespace Go.Ar
open Go Go.Vc Go.Proofs
open Go.Vc (mget mset mdel)
variable {U w w':Hp}{F P Q X S:Rg}{L:LayH}{H H':Hw}{held:List Pc}{s0 sp:Sp}{t n:Nat}{g:Th}{σ0:Hp}{addrs:Sl}{ad:List Int}{l:Sl}{ds:List Deed}
variable {a u:Int}{s:ByteArray}
theorem HI.acc (h:HI H held s0){e:Int×Bk}(he:e∈H.live){w:Nat}(h1:e.1<=((8*w:Nat):Int))(h2:((8*w:Nat):Int)<e.1+e.2.2.1):gf H.sp.st (w/32)≠0:=by
 obtain⟨_,p,hp,_,_,h3,h4,_⟩:=h.lv e he;have:=h.mapped hp (x:=8*w) (by omega) (by omega)
 rwa [show 8*w/256=w/32 by omega]at this
theorem WmS (H:Hw)(sp:Sp)(j:Nat):phAt {H with sp:=sp} j=phAt H j:=rfl
theorem WgM {H1 H2:Hw}(h:Z1 H1 H2)(sp:Sp):Z1 {H1 with sp:=sp} H2:=h
end Go.Ar
namespace Go.Proofs
open Go.Vc
set_option maxRecDepth 100000
def WC.h:Hn:=.q .o2 (.q .o8 (.q (.q (.reg (.seq [.op,.op,.op,.grd false 4 (RI.ops 4)])) (.c (.q .o2 .l) .l)) (.q .o3 (.q .o10 (.q .o5 (.q (.o 11) (.q (.q (.reg (.seq [.op,.op,.op,.grd false 2 [.op,.op]])) (.c (.q .o2 .l) .l)) (.q .o4 (.q .o8 (.q .o8 (.q (.q (.reg (.seq [.op,.op,.op,.grd false 2 [.op,.op],.op,.grd false 3 (RI.ops 3),.op,.grd false 4 (RI.ops 4)])) (.c (.q .o1 .l) .l)) (.q (.q .o1 (.k (.loop [(23,.I)] (.q (.q (.reg (.seq [.op,.op,.op,.op,.op,.grd true 4 (RI.ops 4)])) (.c .l .l)) (.q (.k (.q (.oq 9) (.c (.q .o1 .l) .l))) .o3))))) (.q .o9 (.q (.reg (.seq [.op,.op,.op,.op,.op,.grd true 6 (RI.ops 6),.op,.grd false 16 [.op,.op,.op,.op,.op,.grd true 2 [.op,.op],.op,.grd true 6 (RI.ops 6)],.op,.grd true 1 [.op],.op])) .l))))))))))))))
def WC.v (a b c d e f:Int)(g:Sl)(h i j:Int)(k:Hp)(l:Bool->Hp->Prop):Prop:=Nw (.cells #[.I a,.I b,.I c,.I d,.I e,.I f] 46 (0,0)) k λm n=>LdI .i64 (m.add 0) n λo=>LdI .i64 (m.add 1) n λp=>LdI .i64 (m.add 2) n λq=>LdI .i64 (m.add 3) n λr=>LdI .i64 (m.add 4) n λs=>LdI .i64 (m.add 5) n λt=>XT.c o p q r s t g 40 n λu v w=>JnB (λx y=>If x (WM.c y λz aa=>l z aa) (Yu.c u y λab ac=>Ar .i64 i λad=>Nz ((ab.len:Nat):Int) <| Ix ab.a ab.len (ad.tmod ((ab.len:Nat):Int)) 4 λae=>LdI .i64 (ae.add 0) ac λaf=>LdI .i64 (ae.add 1) ac λag=>LdI .i64 (ae.add 2) ac λah=>LdI .i64 (ae.add 3) ac λai=>Nw (.cells #[.I 0,.I 0,.I 0,.I 0] 65 (0,0)) ac λaj ak=>St1 (aj.add 0) (.I af) ak λal=>St1 (aj.add 1) (.I ag) al λam=>St1 (aj.add 2) (.I ah) am λan=>St1 (aj.add 3) (.I ai) an λao=>LdI .i64 (aj.add 0) ao λap=>Xf.c u ap ao λaq ar=>LdI .i64 (aj.add 0) ar λau=>Yo.c u h au j ar λav aw ax=>JnB (λay az=>If ay (WM.c az λa0 a1=>l a0 a1) (Xf.c u av az λa2 a3=>WN.c u av a3 λa4 a5 a6=>ZQ.c u j 8 a6 λa7 a8 a9=>JnB (λba bb=>JnB (λbc bd=>JnB (λbe bf=>If be (l false bf) (Xo [(.i .i64)] (λbg=>bg 0 bf) λbh (bi:Int) bj=>JnB (λbk bl=>If bk (Ix aq.a aq.len bi 1 λbm=>LdI .i64 bm bl λbn=>Ix a2.a a2.len bi 1 λbo=>LdI .i64 bo bl λbp=>If (bn != bp) (l false bl) (Ar .i64 (bi+1) λbq=>bh bq bl)) (LdI .i64 (aj.add 0) bl λbr=>WN.c u br bl λbs bt bu=>LdI .i64 (aj.add 0) bu λbv=>JnB (λbw bx=>JnB (λbz b0=>JnB (λb1 b2=>l b1 b2) λb3=>If bz (WM.c b0 λb4 b5=>b3 b4 b5) (b3 false b0)) λb6=>If bw (b6 true bx)
 (LdI .i64 (aj.add 0) bx λb7=>JnB (λb8 b9=>JnB (λca cb=>b6 ca cb) λcc=>If b8 (Yu.c u b9 λcd ce=>cc (((cd.len:Nat):Int)==((ab.len:Nat):Int)) ce) (cc false b9)) λcf=>If (av != b7) (cf (bt==8) bx) (cf false bx))) λcg=>If (av==bv) (Yu.c u bu λch ci=>cg (((ch.len:Nat):Int)==((ab.len:Nat):Int)) ci) (cg false bu))) λcj=>If (bi<((aq.len:Nat):Int)) (cj (decide (bi<((a2.len:Nat):Int))) bj) (cj false bj))) λck=>If bc (ck true bd) (Ar .i64 (2*a7) λcl=>ck (decide (a4>cl)) bd)) λcm=>If ba (cm true bb) (cm (decide (a4<j)) bb)) λcn=>If (a5 != 0) (cn true a9) (cn (a8 != 0) a9))) λco=>If (aw != 0) (co true ax) (co (j==0) ax))) λcp=>If u.isNone (cp true w) (Yu.c u w λcq cr=>cp (((cq.len:Nat):Int)==0) cr)
theorem WC.o {a b c d e f g h i j k l}(m:WC.v a b c d e f g h i j k l):WC.c a b c d e f g h i j k l:=Wa Tryz.func7 (x:=WC.h) (R0 m)
end Go.Proofs
namespace Go.Ar
open Go Go.Vc Go.Proofs
open Go.Vc (mget mset mdel)
variable {U w w':Hp}{F P Q X S:Rg}{L:LayH}{H H':Hw}{held:List Pc}{s0 sp:Sp}{t n:Nat}{g:Th}{σ0:Hp}{addrs:Sl}{ad:List Int}{l:Sl}{ds:List Deed}{a u size:Int}
theorem Whr (sp:Sp)(to fr:Int)(n:Nat):Ug sp to fr n=wrS sp to (λi=>Kb sp (fr+(i:Int)*8)) n:=rfl
theorem Wk5 {size:Int}(h:1<=size):Ku size 8=true:=by
 unfold Ku;rw[zH h];decide +kernel
theorem HI.addr16 (h:HI H held s0)(hu:Yj H a=some u):4096<=a:=by
 obtain⟨_,_,_,_,_,b,hb,hbu⟩:=h.usable hu;obtain⟨_,p,hp,_,_,h3,_⟩:=h.lv _ (Vz hb);simp only at h3;obtain⟨A,hA,_⟩:=h.wi'.hf p hp;have hs:=(h.wi'.size_pos hp).1;have e1:=h.wi'.page hp hA (x:=p.addr) (zC _) (by omega);apply Classical.byContradiction;intro hn;have:=h.wi'.low _ A hA (p.addr/256) (by omega);omega
theorem Wkn {live:List (Int×Bk)}{x:Int}(b:Bk)(h:mget live x=none):(mset live x b).length=live.length+1:=by
 have ha:live.any (λe=>e.1==x)=false:=by
  rw[zAN];intro e he hx;unfold mget at h;rw[zDB,zBR]at h;exact h e he hx
 unfold mset;rw[ha,zB (by simp)];simp
theorem Wfa:∀{live:List (Int×Bk)} {x:Int} {b:Bk},(live.map (·.1)).Nodup->mget live x=some b->(mdel live x).length+1=live.length
 | [],x,b,_,h=>by simp[mget]at h
 | e::l,x,b,hn,h=>by
  rw[zU,zo]at hn;by_cases he:e.1=x
  ·have hd:mdel (e::l) x=l:=by
    unfold mdel;rw[zFJ (by simpa using he),zBX];intro a ha;have:a.1≠x:=λhx=>hn.1 (zD.2 ⟨a,ha,hx.trans he.symm⟩);simpa using this
   rw[hd];rfl
  ·have hm:mget l x=some b:=by
    unfold mget at h ⊢
    rwa [List.find?_cons_of_neg (by simpa using he)]at h
   have hd:mdel (e::l) x=e::mdel l x:=by
    unfold mdel;rw[zFK (by simpa using he)]
   rw[hd,zT,zT,Wfa hn.2 hm]
theorem WeB {thread:Int}(hr:Z7 H thread=0)(hph:∀j,phAt H' j=phAt H j)(k:Z1 H' H)(addr:Int):∃p,Kc H' thread 1 0 0 addr=.inr p:=by
 unfold Z7 at hr;split at hr
 ·rename_i hth;split at hr
  ·rename_i hp;have ht:thread.toNat<H.ths.length:=by omega
   have hg:H'.ths[thread.toNat]?=some (H'.ths[thread.toNat]'(by rw[k.2.2.1];exact ht)):=gGe _;have hpn:phAt H' thread.toNat=none:=by
    rw[hph];unfold Uk at hp;rw[zA hth]at hp;unfold phAt;cases hx:H.ths[thread.toNat]? with
    | none=>rfl
    | some g=>rw[hx]at hp;exact hp
   unfold phAt at hpn;rw[hg]at hpn;have hpn:(H'.ths[thread.toNat]'(by rw[k.2.2.1];exact ht)).ph=none:=hpn;unfold Kc;rw[k.2.2.1,zA hth,hg];simp only;rw[zA hpn];exact⟨_,rfl⟩
  ·cases hr
 ·cases hr
structure ReaE (H:Hw) (addr u size:Int) (H':Hw) (a:Int):Prop where
 ok:1<=size/\size<=16384
 us:∃n,Yj H' a=some n/\size<=n/\n<=2*(KI H.tb size 8).1/\∀i:Nat,(i:Int)*8+8<=u->(i:Int)*8+8<=n->Kb H'.sp (a+(i:Int)*8)=Kb H.sp (addr+(i:Int)*8)
 len:H'.live.length=H.live.length
 wild:a≠addr->Yj H' addr=none
theorem Wih (hi:HI H held s0){thread addr:Int}(hr:Z7 H thread=0)(hu:Yj H addr=some u)(h1:1<=size)(h2:size<=16384){H1:Hw}{a:Int}(o:OpOk H H1){cl:Int}(hm:mget H.live a=none)(hlv:H1.live=mset H.live a (a,(KI H.tb size 8).1,cl,XZ H1.ars a)) :
 ∃H3 e3,KR {H1 with sp:=Ug H1.sp a addr ((min (KI H.tb size 8).1 u).toNat/8)} thread 1 0 0 addr H3 0 e3/\HpOk H H3/\ReaE H addr u size H3 a:=by
 obtain⟨held1,s1,hi1⟩:=o.hi;have hg:=Wic (tb:=H.tb) (size:=size) (align:=8) ⟨h2,Wk5 h1⟩;generalize hgu:(KI H.tb size 8).1=u2 at *;have hu2:Yj H1 a=some u2:=by unfold Yj;rw[hlv,WbT];rfl
 obtain⟨v1,v2,v3,v4,v5,_⟩:=hi1.usable hu2;obtain⟨u1,u2',u3,u4,u5,b,hb,hbu⟩:=hi.usable hu;have hne:a≠addr:=λh=>by rw[h,hb]at hm;cases hm
 have hb1:mget H1.live addr=some b:=by rw[hlv,U7,zB (Ne.symm hne)];exact hb
 rw[Whr];obtain⟨s2,hi2⟩:=hi1.wr a (λi=>Kb H1.sp (addr+(i:Int)*8)) ((min u2 u).toNat/8);obtain⟨H3,e3,hw3,o3,fe⟩:=HY hi2 thread addr (by unfold I63;omega);obtain⟨held3,s3,hi3⟩:=o3.hi;have hl3:H3.live=mdel H1.live addr:=by
  rcases fe with⟨_,_,hst⟩|⟨_,hn,_⟩|⟨_,b',_,_,hl⟩
  ·obtain⟨p,hp⟩:=WeB (H':={H1 with sp:=wrS H1.sp a (λi=>Kb H1.sp (addr+(i:Int)*8)) ((min u2 u).toNat/8)}) hr (λj=>(WmS _ _ j).trans (o.ph j)) (WgM o.kp _) addr;rw[hst]at hp;cases hp
  ·exact absurd (hb1.symm.trans hn) (by simp)
  ·exact hl
 have hu3:Yj H3 a=some u2:=by
  unfold Yj;rw[hl3,U6,zB hne,hlv,WbT];rfl
 refine⟨H3,e3,hw3,⟨⟨_,_,hi3⟩,(WgM o.kp _).trans o3.kp⟩,⟨h1,h2⟩,⟨u2,hu3,hg.1,by rw[hgu];omega,λi hiu hin=>?_⟩,?_,λ_=>?_⟩
 ·obtain⟨a8,rfl⟩:∃c:Nat,a=((8*c:Nat):Int):=⟨a.toNat/8,by omega⟩;obtain⟨b8,rfl⟩:∃c:Nat,addr=((8*c:Nat):Int):=⟨addr.toNat/8,by omega⟩;have hbl:=Vz hb;have hb1l:=Vz hb1;have m0:=hi.acc hbl (w:=b8+i) (by simp only;omega) (by simp only;omega);have m1:=hi1.acc hb1l (w:=b8+i) (by simp only;omega) (by simp only;omega);have hal:((((8*a8:Nat):Int)),(((8*a8:Nat):Int),u2,cl,XZ H1.ars ((8*a8:Nat):Int)))∈H1.live:=by rw[hlv];exact(UJ hm).2 (.inr rfl)
  have m2:=hi1.acc hal (w:=a8+i) (by simp only;omega) (by simp only;omega);have ha3:((((8*a8:Nat):Int)),(((8*a8:Nat):Int),u2,cl,XZ H1.ars ((8*a8:Nat):Int)))∈H3.live:=by rw[hl3];exact He.2 ⟨hal,hne⟩
  have m3:=hi3.acc ha3 (w:=a8+i) (by simp only;omega) (by simp only;omega);obtain⟨_,z2,z3⟩:=Wld H1.sp a8 (λi=>Kb H1.sp (((8*b8:Nat):Int)+(i:Int)*8)) ((min u2 u).toNat/8);have k1:=hi.kl o.ks _ hbl (b8+i) (by simp only;omega) (by simp only;omega);have m2':gf (wrS H1.sp ((8*a8:Nat):Int) (λi=>Kb H1.sp (((8*b8:Nat):Int)+(i:Int)*8)) ((min u2 u).toNat/8)).st ((a8+i)/32)≠0:=λhx=>m2 ((z2 _).1 hx);have k3:=(o3.ks.k _ m2').2 (a8+i) rfl;rw[show((8*a8:Nat):Int)+(i:Int)*8=((8*(a8+i):Nat):Int) by omega,show((8*b8:Nat):Int)+(i:Int)*8=((8*(b8+i):Nat):Int) by omega,WdP,WdP,zA m3,zA m0,k3];show(wrS H1.sp ((8*a8:Nat):Int) (λi=>Kb H1.sp (((8*b8:Nat):Int)+(i:Int)*8)) ((min u2 u).toNat/8)).wd (a8+i)=_;rw[z3,zA ⟨by omega,by omega,m2⟩,show a8+i-a8=i by omega,show((8*b8:Nat):Int)+(i:Int)*8=((8*(b8+i):Nat):Int) by omega,WdP,zA m1];exact k1
 ·have h3:=Wfa hi1.lk hb1;have h4:=Wkn (a,u2,cl,XZ H1.ars a) hm;rw[←hlv]at h4;rw[hl3];omega
 ·unfold Yj;rw[hl3,U6,zA rfl];rfl
theorem WnP (hi:HI H held s0)(thread size:Int){addr:Int}(hu:Yj H addr=some u):∃H' a e,ReaR H thread addr size H' a e/\HpOk H H'/\(e=0->size≠0->ReaE H addr u size H' a):=by
 obtain⟨u1,u2,u3,u4,u5,b,hb,hbu⟩:=hi.usable hu;have h16:=hi.addr16 hu;have hne:addr≠0:=by omega
 by_cases hr:Z7 H thread=0
 ·by_cases hs:0<=size/\size<=16384
  ·by_cases hz:size=0
   ·obtain⟨H',e,hw,o,_⟩:=HY hi thread addr (by unfold I63;omega);exact⟨_,_,_,.free hr hne hz hu hw,o.hp,λ_ h=>(h hz).elim⟩
   ·by_cases hsm:size<=u/\u<=2*(KI H.tb size 8).1
    ·exact⟨_,_,_,.same hr hne (by omega) hs.2 hu hsm,⟨⟨_,_,hi⟩,Z1.refl _⟩,λ_ _=>⟨⟨by omega,hs.2⟩,⟨u,hu,hsm.1,hsm.2,λ_ _ _=>rfl⟩,rfl,λh=>(h rfl).elim⟩⟩
    ·obtain⟨H1,a,e,hw,o,me⟩:=Wdj hi thread size 8;rcases me with⟨hne',_⟩|⟨rfl,hm,hok,cl,hlv,_⟩
     ·exact⟨_,_,_,.full hr hne (by omega) hs.2 hu hsm hw hne',o.hp,λh=>(hne' h).elim⟩
     ·obtain⟨held1,s1,hi1⟩:=o.hi;have hu2:Yj H1 a=some (KI H.tb size 8).1:=by unfold Yj;rw[hlv,WbT];simp only[zc]
      obtain⟨w1,w2,w3,w4,w5,_⟩:=hi1.usable hu2;obtain⟨H3,e3,hw3,hp3,re⟩:=Wih hi hr hu (by omega) hs.2 o hm hlv;exact⟨_,_,_,.moved hr hne (by omega) hs.2 hu hsm hw hu2 (by omega) (by omega) (by omega) hw3,hp3,λ_ _=>re⟩
  ·exact⟨_,_,_,.bad hr (by omega),⟨⟨_,_,hi⟩,Z1.refl _⟩,λh=>by cases h⟩
 ·exact⟨_,_,_,.notReady hr,⟨⟨_,_,hi⟩,Z1.refl _⟩,λh=>(hr h).elim⟩
theorem Woj {s:Sl}{bs:List Bk}(hs:SlR s 4 (bksV bs) U F){i:Nat}{b:Bk}(hb:bs[i]?=some b){K:Addr->Prop}(hK:∀bb o,(∀(j:Nat) v,(bkV b)[j]?=some v->cell U ⟨bb,o+j,none⟩=some v)->K ⟨bb,o,none⟩):Ix s.a s.len (i:Int) 4 K:=by
 have hil:=(gSi.1 hb).1;have hl:s.len=bs.length:=by have:=hs.1;rw[UG]at this;omega
 obtain⟨bb,o,ha,h0⟩:=hs.cell (Wb0 hb (j:=0) rfl);rw[ha];refine ix (by omega) (by omega) ?_;rw[add_lit,iTn];refine hK bb _ λj v hv=>?_;obtain⟨b',o',ha',hc⟩:=hs.cell (Wb0 hb hv);rw[ha]at ha';cases ha';rw[←hc];congr 2;omega
theorem PlayOk.keepB (p:PlayOk σ0 U L H held s0 P Q addrs ad)(e:Ext P U w){b:Nat}{cs:List Value}(hb:Blk U b cs)(hP:¬P b):Blk w b cs:=e.blk hb hP
set_option maxRecDepth 8000 in
theorem Wcn (gl:Gl U)(gd:Gd U)(b b1 b2 b3 b4 b5:Int)(hd:Deeds U l ds)(thread:Int){which:Int}(hwh:0<=which/\which<=255)(size:Int){R:Bool->Hp->Prop}(hR:∀σ',Ext0 U σ'->R true σ'):WC.c b b1 b2 b3 b4 b5 l thread which size U R:=by
 refine WC.o ?_;unfold WC.v;refine nw (cs:=[.int .i64 b,.int .i64 b1,.int .i64 b2,.int .i64 b3,.int .i64 b4,.int .i64 b5]) λv hz e hb=>hb.rI rfl (hb.rI rfl (hb.rI rfl (hb.rI rfl (hb.rI rfl (hb.rI rfl ?_)))));refine WlT (gl.keep0 e) (gd.keep0 e) b b1 b2 b3 b4 b5 (hd.keep0 e) 40 (by decide) (λv1 e1=>?_) λv1 L H held s0 P Q addrs ad p=>?_
 ·exact JnB.intro (ifT rfl (ifT rfl (UB (gl.keep0 (e.trans e1)) (gd.keep0 (e.trans e1)) λv2 e2=>hR v2 ((e.trans e1).trans e2))))
 refine QM (λr w=>Ext0 v1 w/\(r=false->H.live.length≠0)) (λr w ⟨ew,hr⟩=>?_) λJ hJ=>ifF rfl (GP p.h p.hi λs w bs ew hbs hrow=>hJ _ _ ⟨ew,λhf=>?_⟩)
 ·have pw:=p.fr ew;refine iff_ (λ_=>UB pw.h.g pw.h.gd λv2 e2=>hR v2 ((e.trans pw.e).trans e2)) λhf=>?_;have hl0:=hr hf;refine GP pw.h pw.hi λs v4 bs e4 hbs hrow=>?_;have p4:=pw.fr e4;have hsl:s.len=bs.length:=by have:=hrow.1;rw[UG]at this;omega
  have hbl:=hbs.len;refine ar (by omega) (by omega) (nz (by omega) ?_);have htm:which.tmod (s.len:Int)=((which.toNat%s.len:Nat):Int):=by
   rw[QA hwh.1,Int.natCast_emod,Int.toNat_of_nonneg hwh.1]
  rw[htm];have hlt:which.toNat%s.len<s.len:=zCR _ (by omega);have hy:bs[which.toNat%s.len]?=some (bs[which.toNat%s.len]'(by omega)):=gGe _;generalize (bs[which.toNat%s.len]'(by omega))=y at hy;have hym:=(hbs.mem y).1 (zE hy);have hu:Yj H y.1=some y.2.1:=by unfold Yj;rw[Vk pw.hi.lk hym];rfl
  obtain⟨u1,u2,u3,u4,u5,_⟩:=pw.hi.usable hu;refine Woj (RowR.slR hrow) hy λbb o hc=>ldI0 (hc 0 _ rfl) (ldI0 (hc 1 _ rfl) (ldI0 (hc 2 _ rfl) (ldI0 (hc 3 _ rfl) ?_)));refine nw (cs:=[.int .i64 0,.int .i64 0,.int .i64 0,.int .i64 0]) λv5 hz5 e5 hb5=>hb5.s1 (by simp) λv6 o6 b6=>b6.s1 (by simp) λv7 o7 b7=>b7.s1 (by simp) λv8 o8 b8=>b8.s1 (by simp) λv9 o9 b9=>?_;have e49:Ext0 v4 v9:=(((e5.only o6 (.inr (zC _))).only o7 (.inr (zC _))).only o8 (.inr (zC _))).only o9 (.inr (zC _));have p9:=p4.fr e49;have hnP:¬P v4.size:=λhx=>by have:=(p4.pP _ hx).2;omega
  refine b9.rI rfl (Wbv p9.h hu (by omega) (by omega) (by omega) (by omega) λwas v10 e10 hwas=>?_);have p10:=p9.fr e10;have b10:=e10.blk b9 id;obtain⟨H',a,er,hrr,o,hre⟩:=WnP p10.hi thread size hu;refine b10.rI rfl (UC Wcb p10.h p10.cf hrr (λu' hu'=>by rw[hu]at hu';cases hu';omega) λv11 ts11 e11 h11=>?_);obtain⟨held',s0',hi'⟩:=o.hi;have p11:=p10.step e11 h11 hi' o.kp;have b11:=p10.keepB e11 b10 hnP;have hwas11:=(RowR.loc _ _ _).keep hwas e11 λq _ hq hp=>by have:=(p9.pP q hp).2;omega
  refine QM (λr w=>w=v11/\(r=false->er=0/\size≠0)) (λr1 w1 ⟨hw1,hr1⟩=>?_) λJ hJ=>iff_ (λ_=>hJ _ _ ⟨rfl,λh=>by cases h⟩) λhe=>hJ _ _ ⟨rfl,λh=>⟨by simpa using he,by simpa using h⟩⟩;rw[hw1];refine iff_ (λ_=>UB p11.h.g p11.h.gd λv2 e2=>hR v2 ((e.trans p11.e).trans e2)) λhf1=>?_;obtain⟨he,hsz⟩:=hr1 hf1;have re:=hre he hsz;obtain⟨nn,hun,hn1,hn2,hwd⟩:=re.us;obtain⟨n1,n2,n3,n4,n5,_⟩:=hi'.usable hun;refine Wbv p11.h hun (by omega) (by omega) (by omega) (by omega) λnow v14 e14 hnow=>?_;have p14:=p11.fr e14;refine Qj p14.h a λv15 e15=>?_;rw[hun];simp only[zAL];have p15:=p14.fr e15;refine WaE p15.h p15.cf size 8 λv16 e16=>?_;have p16:=p15.fr e16;have htb:H'.tb=H.tb:=o.kp.1;rw[htb];have hg:=Wic (tb:=H.tb) (size:=size) (align:=8) ⟨re.ok.2,Wk5 re.ok.1⟩;have hgle:=GM (tb:=H.tb) p.cf.2.2 size 8 re.ok.2;rw[hg.2];have e1116:Ext0 v11 v16:=(e14.trans e15).trans e16;have b16:=e1116.blk b11 id;have hwas16:=(RowR.loc _ _ _).keep0 hwas11 e1116;have hnow16:=(RowR.loc _ _ _).keep0 hnow (e15.trans e16);have hwl:was.len=y.2.1.toNat/8:=by have:=hwas.1;simp[Wx,Gj,hu]at this;omega
  have hnl:now.len=nn.toNat/8:=by have:=hnow.1;simp[Wx,Gj,hun]at this;omega
  refine JnB.intro (ifF rfl (JnB.intro (ifF rfl (JnB.intro (ifF (zJ (by omega)) (ar (by omega) (by omega) (ifF (zJ (by omega)) ?_)))))));refine ZD (a:=.i .i64) (λ(z:Int) w=>w=v16/\∃i:Nat,z=i/\i<=was.len) (λz _=>was.len-z.toNat) ⟨rfl,0,rfl,by omega⟩ ?_;rintro(z:Int) w20 ⟨hw20,i,rfl,hil⟩;rw[hw20];refine QM (λr w=>w=v16/\(r=true->i<was.len/\i<now.len)) (λr5 w21 ⟨hw21,hr5⟩=>?_) λJ hJ=>ifD (λh1=>hJ _ _ ⟨rfl,λh=>⟨by omega,by have:=zCQ h;omega⟩⟩) λ_=>hJ _ _ ⟨rfl,λh=>by cases h⟩;rw[hw21];refine iff_ (λh5=>?_) λh5=>?_
  ·obtain⟨q1,q2⟩:=hr5 h5;have g1:(Gj H y.1)[i]?=some (Kb H.sp (y.1+(i:Int)*8)):=by
    unfold Gj;rw[hu];simp only[zAL];rw[ze,zAV (by omega)];rfl
   have g2:(Gj H' a)[i]?=some (Kb H.sp (y.1+(i:Int)*8)):=by
    unfold Gj;rw[hun];simp only[zAL];rw[ze,zAV (by omega),←hwd i (by omega) (by omega)];rfl
   exact(RowR.slR hwas16).ixI g1 ((RowR.slR hnow16).ixI g2 (ifF (by simp) (arN (m:=i+1) (by omega) (by omega) ⟨⟨rfl,i+1,rfl,by omega⟩,by omega⟩)))
  ·refine b16.rI rfl (Qj p16.h y.1 λv22 e22=>?_);have p22:=p16.fr e22;have b22:=e22.blk b16 id;have hfin:∀w,Ext0 v22 w->WM.c w λt162 v26=>(λr8 v25=>R r8 v25) t162 v26:=λw ew=>UB (p22.fr ew).h.g (p22.fr ew).h.gd λv2 e2=>hR v2 ((e.trans (p22.fr ew).e).trans e2);have hlen:=re.len;refine b22.rI rfl ?_;refine QM (λr w=>Ext0 v22 w/\(r=true\/a≠y.1)) (λr6 w23 ⟨ew23,hr6⟩=>?_) λJ7 hJ7=>iff_ (λhay=>GP p22.h p22.hi λs3 w3 bs3 e3 hbs3 hrow3=>hJ7 _ _ ⟨e3,.inl ?_⟩) λhay=>hJ7 _ _ ⟨Ext.refl _ _,.inr (by simpa using hay)⟩
   ·refine QM (λr w=>Ext0 v22 w/\r=true) (λr7 w24 ⟨ew24,hr7⟩=>?_) λJ8 hJ8=>iff_ (λ_=>hJ8 _ _ ⟨ew23,rfl⟩) λhf6=>?_
    ·exact JnB.intro (ifT hr7 (hfin w24 ew24))
    ·have hay:a≠y.1:=hr6.resolve_left (by rw[hf6];simp);have b23:=ew23.blk b22 id;have p23:=p22.fr ew23;refine b23.rI rfl ?_;refine QM (λr w=>w=w23/\r=true) (λr9 w27 ⟨hw27,hr9⟩=>?_) λJ10 hJ10=>ifT (by simpa using hay) (hJ10 _ _ ⟨rfl,?_⟩)
     ·rw[hw27];refine QM (λr w=>Ext0 v22 w/\r=true) (λr10 w28 h28=>hJ8 _ _ h28) λJ11 hJ11=>ifT hr9 (GP p23.h p23.hi λs3 w3 bs3 e3 hbs3 hrow3=>hJ11 _ _ ⟨ew23.trans e3,?_⟩);have h3:s3.len=bs3.length:=by have:=hrow3.1;rw[UG]at this;omega
      have h4:=hbs3.len;rw[beqN];simp;omega
     ·rw[re.wild hay];rfl
   ·have h3:s3.len=bs3.length:=by have:=hrow3.1;rw[UG]at this;omega
    have h4:=hbs3.len;rw[beqN];simp;omega
 ·have h3:s.len=bs.length:=by have:=hrow.1;rw[UG]at this;omega
  have h4:=hbs.len;simp only[Wel,zw,ne_eq]at hf;omega
end Go.Ar
namespace Go.Ar
open Go Go.Vc Go.Proofs Go.ChangeShapes Go.WideShapes Go.RowKit Go.Deep
theorem Gw {H:Type}{enc:TypeId×Value->H}{P:Program}{w:World}{base:Nat}{sp:Nat->Bool}{held:Bool}{fuel:Nat}{t:TypeId}{c:Value}{y:DataW H×List MemPlace}
 (ht:P.underlying t=some .bool) (h:DataW.trod enc P w base sp held fuel t [c]=some y):∃n,c=.bool n/\y=(.lit (.bool n),[]):=by
 cases fuel with
 | zero=>simp[DataW.trod]at h
 | succ fuel=>
  cases c<;>simp[DataW.trod,ht]at h
  rename_i n;exact⟨n,rfl,by simpa using h.symm⟩
theorem Way {P:Program}{w:World}{t:TypeId}{f0 f1:Field}{cs:Array Value}{fuel:Nat}{p:List MemPlace}{x y:Bool}(ht:P.underlying t=some (.struct #[f0,f1]))(hone:oneCellFields P #[f0,f1]=true)(hC:P.cellsOf t=2)
 (h0:P.underlying f0.type=some .bool) (h1:P.underlying f1.type=some .bool) (h:DataW.trod (λ_=>()) P w 0 (λ_=>true) false fuel t cs.toList=some (.agg [.lit (.bool x),.lit (.bool y)],p)):cs = #[.bool x,.bool y]:=by
 obtain⟨ys,n,hn,hy,hlen,hyl,hff⟩:=DataW.trod_struct ht h;obtain⟨l⟩:=cs;have hl2:l.length=2:=by rw[←hC];simpa using hlen
 match l,hl2 with
 | [c0,c1],_=>
  have k0:=hff 0 f0 rfl;have k1:=hff 1 f1 rfl;obtain⟨o0,q0⟩:=hone_of hone 0 f0 rfl;obtain⟨o1,q1⟩:=hone_of hone 1 f1 rfl;rw[o0,q0]at k0;rw[o1,q1]at k1
  match ys,hyl with
  | [y0,y1],_=>
   obtain⟨n0,rfl,e0⟩:=Gw h0 (c:=c0) (y:=y0) (by simpa using k0);obtain⟨n1,rfl,e1⟩:=Gw h1 (c:=c1) (y:=y1) (by simpa using k1);subst e0;subst e1;simp at hy;obtain⟨⟨rfl,rfl⟩,_⟩:=hy;rfl
theorem Gf {w:World}{a:Addr}{v:Value}(h:w.cell? a=some v):cell w.heap a=some v:=h
end Go.Ar