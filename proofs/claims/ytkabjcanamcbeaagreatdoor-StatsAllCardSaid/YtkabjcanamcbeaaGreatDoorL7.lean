/- Texts joined. -/
import Derived.Shelf.SlSortCmp.NoneTotal
import Derived.Ground.SlsfProg
import Derived.Test.YtkabjcanamcbeaaGreatDoorProg
import Derived.Shelf.SlIterI.Nil
import Derived.Ground.GgzProg
import Derived.Test.YtkabjcanamcbeaaGreatDoorL6
set_option linter.unusedVariables false
set_option linter.unusedSimpArgs false
namespace Go.Ar
open Go.Vc (bW dG cR)
structure gO (s s':Sp):Prop where
 l:s'.st.length=s.st.length
 z:∀p,gf s'.st p=0↔gf s.st p=0
 w:s'.wd=s.wd
def iU (m:Nat)(g:Th):Prop:=match g.ph with
 | none=>g.bP=[]
 | some (.take k)=>g.bP=[]/\k<m
 | some (.cN k w)=>g.bP=[]/\k<m/\(g.li k).os=[]/\1<=w/\w<=32
 | some (.cP k w)=>g.bP=[]/\k<m/\(g.li k).os=[]/\1<=w/\w<=32
 | some (.grow k w)=>g.bP=[]/\k<m/\(g.li k).os=[]/\1<=w/\w<=32
 | some .fill=>∃k x xs,g.bP=[(k,x::xs)]/\k<m/\(g.li k).os=[]/\xs.length<=128
 | some (.eU n)=>g.bP=[]/\1<=n/\n<=64
 | some (.find x)=>g.bP=[]/\iX x
 | some (.put k x)=>g.bP=[(k,[x])]/\k<m
 | some .back=>g.bP≠[]
 | some (.dK _ _)=>g.bP=[]
 | some .drain=>g.bP=[]
structure xG (m:Nat) (g:Th):Prop where
 ll:g.ls.length=m
 lo:∀l∈g.ls,fW l/\l.os.length<=128
 hb:∀b∈g.bP,b.1<m/\b.2≠[]/\b.2.length<=256
 hl:g.bP.length<=41
 ph:iU m g
def Lv (held:List Pc)(e:Int×Bk):Prop:=e.2.1=e.1/\∃p∈held,p.dF=false/\p.cls=e.2.2.2.1/\(p.addr:Int)=e.1/\e.2.2.1=(p.size:Int)/\e.2.2.2.2=(p.k:Int)
def Gv (held:List Pc)(s a:Int):Prop:=∃p∈held,p.dF=false/\p.cls = -1/\(p.addr:Int)=s*256/\a=(p.k:Int)
structure HI (H:Hw) (held:List Pc) (s0:Sp):Prop where
 wi:WI ⟨H.tb,s0,H.bT,held⟩
 lW:gO s0 H.sp
 cn:∀k x,tP H k x=nN held k x
 lk:(H.live.map (·.1)).Nodup
 lv:∀e∈H.live,Lv held e
 gv:∀g∈H.bR,∀s a,g.ph=some (.dK s a)->Gv held s a
 th:∀g∈H.bR,xG H.tb.length g
 ok:∀c∈H.tb,c.ok
 a1:1<=H.bT.length
 sl:H.sp.st.length=H.cf.aF
variable {H:Hw}{held:List Pc}{s0:Sp}{t k:Nat}{g:Th}{A:AR}
theorem gO.refl (s:Sp):gO s s:=⟨rfl,λ_=>Iff.rfl,rfl⟩
theorem HI.apart (h:HI H held s0){p q:Pc}(hp:p∈held)(hq:q∈held){x:Nat}(p1:p.addr<=x)(p2:x<p.addr+p.size)(q1:q.addr<=x)(q2:x<q.addr+q.size):p=q:=h.wi.apart hp hq p1 p2 q1 q2
theorem WI.same {W:Wd}(h:WI W){p q:Pc}(hp:p∈W.held)(hq:q∈W.held)(e:p.addr=q.addr):p=q:=by
 have b:=(h.size_pos hp).1;have a:=(h.size_pos hq).1;exact h.apart hp hq (x:=p.addr) (zD _) O O O
theorem WI.um {W:Wd}(h:WI W){p:Pc}(hp:p∈W.held){k x:Int}(hu:Um W.held k x)(e:(p.addr:Int)=x):p.dF=false/\p.cls=k:=by
 obtain⟨q,a,d,b,g⟩:=hu;obtain rfl:=h.same hp a O;exact⟨d,b⟩
theorem HI.re (h:HI H held s0){e:Int×Bk}(he:e∈H.live):Um held e.2.2.2.1 e.1:=by
 obtain⟨_,p,b,d,a,g,_⟩:=h.lv e he;exact⟨p,b,d,a,g⟩
theorem HI.qC (h:HI H held s0){g:Th}(hg:g∈H.bR)(k x:Int):gV g k x<=nN held k x:=by
 rw[←h.cn];unfold tP;have:=IE (λg=>gV g k x) hg;omega
theorem HI.uY (h:HI H held s0){g:Th}(hg:g∈H.bR){k x:Int}(hc:1<=gV g k x):Um held k x:=C9 (zJ hc (h.qC hg k x))
theorem HI.pE (h:HI H held s0){g:Th}(hg:g∈H.bR){k x:Int}(hc:1<=gV g k x):bW H.live x=none:=by
 cases hm:bW H.live x with
 | none=>rfl
 | some b=>
  have d:=Vk hm;have u:=h.uY hg hc;obtain⟨q,p,w,j,r⟩:=h.re d;have i:k=b.2.2.1:=by
   have:=(h.wi.um (W:=⟨H.tb,s0,H.bT,held⟩) p u r).2;exact this.symm.trans j
  have s:=L3 d;have e:=h.cn k x;have m:=MF held k x;have a:=IE (λg=>gV g k x) hg;simp only at s a;unfold tP at e;rw[i]at e m a hc;omega
theorem HI.wG (h:HI H held s0){x:Int}(hn:∀k,¬Um held k x):bW H.live x=none:=by
 cases hm:bW H.live x with
 | none=>rfl
 | some b=>exact(hn _ (h.re (Vk hm))).elim
theorem HI.fS (h:HI H held s0)(hg:H.bR[t]?=some g){g':Th}{live':List (Int×Bk)}{s0' sp':Sp}{ars':List AR}{held':List Pc}(wi:WI ⟨H.tb,s0',ars',held'⟩)(lW:gO s0' sp')(hsl:sp'.st.length=H.sp.st.length)(hl:ars'.length=H.bT.length)
 (sub:∀p∈held',p.dF=false->p∈held\/∀k,¬Um held k (p.addr:Int))
 (cn:∀k x,pU live' k x+gV g' k x+nN held k x=pU H.live k x+gV g k x+nN held' k x)
 (lk:(live'.map (·.1)).Nodup) (lv:∀e∈live',e∈H.live\/Lv held' e) (gv:∀s a,g'.ph=some (.dK s a)->Gv held' s a) (th:xG H.tb.length g') :
 HI {H with live:=live',sp:=sp',bT:=ars',bR:=H.bR.set t g'} held' s0':=by
 have u:∀k x,tP {H with live:=live',sp:=sp',bT:=ars',bR:=H.bR.set t g'} k x=nN held' k x:=λk x=>by
  have i:=h.cn k x;have r:=cn k x;have d:=Lx (λg=>gV g k x) g' hg;unfold tP at i ⊢;simp only at d ⊢;omega
 have G:=(cQ.1 hg).1;have bU:∀p∈held,p.dF=false->Um held' p.cls (p.addr:Int)->p∈held':=λp m E ⟨q,A,i,r,d⟩=>by
  rcases sub q A i with hs|hs
  ·have:q=p:=h.wi.same (W:=⟨H.tb,s0,H.bT,held⟩) hs m O;rw[←this];exact A
  ·exact(hs p.cls ⟨p,m,E,rfl,d.symm⟩).elim
 refine⟨wi,lW,u,lk,λe B=>?_,λw b s a m=>?_,λw b=>?_,h.ok,by simp only;rw[hl];exact h.a1,hsl.trans h.sl⟩
 ·rcases lv e B with he'|he'
  ·obtain⟨D,p,m,i,r,d,y⟩:=h.lv e he';refine⟨D,p,bU p m i ?_,i,r,d,y⟩;rw[r,d];apply C9;rw[←u];have:1<=pU live' e.2.2.2.1 e.1:=L3 B;unfold tP;simp only;omega
  ·exact he'
 ·rcases List.mem_iff_getElem?.1 b with⟨j,hj⟩;rcases Vr hj with⟨rfl,rfl,_⟩|⟨hne,hj'⟩
  ·exact gv s a m
  ·obtain⟨p,z,i,r,d,y⟩:=h.gv w (zE hj') s a m;refine⟨p,bU p z i ?_,i,r,d,y⟩;rw[r,d];apply C9;rw[←u];have C:=IE (λg=>gV g (-1) (s*256)) b;have F:1<=gV w (-1) (s*256):=by unfold gV;rw[m];simp[lT]
   unfold tP;simp only at C ⊢;omega
 ·rcases List.mem_iff_getElem?.1 b with⟨j,hj⟩;rcases Vr hj with⟨rfl,rfl,_⟩|⟨hne,hj'⟩
  ·exact th
  ·exact h.th w (zE hj')
theorem HI.nR (h:HI H held s0)(hg:H.bR[t]?=some g){g':Th}{live':List (Int×Bk)}(cn:∀k x,pU live' k x+gV g' k x=pU H.live k x+gV g k x)(lk:(live'.map (·.1)).Nodup)(lv:∀e∈live',e∈H.live\/Lv held e)
 (gv:∀s a,g'.ph=some (.dK s a)->Gv held s a) (th:xG H.tb.length g'):HI {H with live:=live',bR:=H.bR.set t g'} held s0:=
 h.fS hg h.wi h.lW rfl rfl (λp b _=>.inl b) (λk x=>by have:=cn k x;omega) lk lv gv th
theorem HI.xB (h:HI H held s0){s0' sp':Sp}{ars':List AR}{held':List Pc}(wi:WI ⟨H.tb,s0',ars',held'⟩)(lW:gO s0' sp')(hsl:sp'.st.length=H.sp.st.length)(hl:ars'.length=H.bT.length)(um:∀k x,Um held' k x↔Um held k x)(sub:∀p∈held',p.dF=false->p∈held) :
 HI {H with sp:=sp',bT:=ars'} held' s0':=by
 have bU:∀p∈held,p.dF=false->p∈held':=λp d y=>by
  obtain⟨q,m,b,i,z⟩:=(um p.cls (p.addr:Int)).2 ⟨p,d,y,rfl,rfl⟩;have:q=p:=h.wi.same (W:=⟨H.tb,s0,H.bT,held⟩) (sub q m b) d O;rw[←this];exact m
 refine⟨wi,lW,λk x=>(h.cn k x).trans (Sv um k x).symm,h.lk,λe r=>?_,λg w s a d=>?_,h.th,h.ok,by simp only;rw[hl];exact h.a1,hsl.trans h.sl⟩
 ·obtain⟨u,p,d,b,i⟩:=h.lv e r;exact⟨u,p,bU p d b,b,i⟩
 ·obtain⟨p,j,b,i⟩:=h.gv g w s a d;exact⟨p,bU p j b,b,i⟩
theorem GD {A:AR}{x:Int}:V7 A x=true↔0<=x/\A.f x.toNat≠0:=by
 unfold V7 AR.f gf;simp
theorem WI.owner {W:Wd}(h:WI W){p:Pc}(hp:p∈W.held){x:Nat}(h1:p.addr<=x)(h2:x<p.addr+p.size):YM W.bT (x:Int)=(p.k:Int):=by
 obtain⟨A,b,_⟩:=h.hf p hp;have g:=h.rK hp b h1 h2;have a:=(cQ.1 b).1;have own:∀(j:Nat) (B:AR),W.bT[j]?=some B->(V7 B ((x:Int)/256)=true↔j=p.k):=λj B d=>by
  have e:((x:Int)/256).toNat=x/256:=by omega
  rw[GD,e];constructor
  ·rintro⟨_,hf⟩;exact h.one (x/256) j p.k B A d b hf O
  ·rintro rfl;rw[b]at d;cases d;exact⟨O,O⟩
 unfold YM;rw[zA O];have hf:W.bT.findIdx? (λA=>V7 A ((x:Int)/256))=some p.k:=by
  rw[rJ];refine⟨a,(own p.k _ (cM a)).2 rfl,λj i=>?_⟩;have:=own j W.bT[j] (cM O);intro hx;have:=this.1 hx;omega
 rw[hf]
theorem HI.owner (h:HI H held s0){p:Pc}(hp:p∈held){x:Nat}(h1:p.addr<=x)(h2:x<p.addr+p.size):YM H.bT (x:Int)=(p.k:Int):=h.wi.owner (W:=⟨H.tb,s0,H.bT,held⟩) hp h1 h2
theorem HI.uc (h:HI H held s0){p:Pc}(hp:p∈held):YM H.bT (p.addr:Int)=(p.k:Int):=h.owner hp (zD _) (by have:=(h.wi.size_pos (W:=⟨H.tb,s0,H.bT,held⟩) hp).1;omega)
theorem HI.i63 (h:HI H held s0){k x:Int}(hu:Um held k x):iX x/\0<=x/\0<=YM H.bT x:=by
 obtain⟨p,a,_,_,rfl⟩:=hu;have:=(h.wi.lY (W:=⟨H.tb,s0,H.bT,held⟩) a).1;refine⟨by unfold iX;omega,O,?_⟩;rw[h.uc a];omega
end Go.Ar
namespace Go.Ar
open Go.Vc (bW dG cR)
open Go.Bu (Zg)
structure KS (s s':Sp):Prop where
 l:s'.st.length=s.st.length
 k:∀p,gf s.st p≠0->gf s'.st p≠0/\∀w,w/32=p->s'.wd w=s.wd w
theorem KS.refl (s:Sp):KS s s:=⟨rfl,λp a=>⟨a,λ_ _=>rfl⟩⟩
theorem KS.trans {a b c:Sp}(h:KS a b)(k:KS b c):KS a c:=⟨k.l.trans h.l,λp d=>⟨(k.k p (h.k p d).1).1,λw e=>((k.k p (h.k p d).1).2 w e).trans ((h.k p d).2 w e)⟩⟩
variable {s s' sp sp' s0 s0':Sp}{A B:AR}{k:Nat}
theorem gO.mz (h:gO s s'):s'.st.map (λx=>decide (x=0))=s.st.map λx=>decide (x=0):=by
 refine lX λi=>?_;rw[zi,zi];have a:=h.z i;unfold gf at a;rw[zL,zL]at a;by_cases hi:i<s.st.length
 ·have b:i<s'.st.length:=by rw[h.l];exact hi
  rw[cM hi,cM b]at a ⊢;simp only[sS]at a;simp[a]
 ·have d:=h.l;rw[za O,za O]
theorem Lh {l l':List Nat}(h:l'.map (λx=>decide (x=0))=l.map λx=>decide (x=0))(a m:Nat)(f:Bool->Bool):((l'.drop a).take m).any (λx=>f (decide (x=0)))=((l.drop a).take m).any λx=>f (decide (x=0)):=by
 have e:∀l:List Nat,((l.drop a).take m).any (λx=>f (decide (x=0)))=(((l.map λx=>decide (x=0)).drop a).take m).any f:=λl=>by
  rw[←List.map_drop,←List.map_take,List.any_map];rfl
 rw[e,e,h]
theorem gO.fI (h:gO s s')(a m:Int):fI s' a m=fI s a m:=by
 unfold Go.Ar.fI;rw[h.l];have:=Lh h.mz a.toNat m.toNat (λb=>!b);have e:∀l:List Nat,l.any (λx=>x != 0)=l.any λx=>!decide (x=0):=λl=>by
  refine congrArg l.any (funext λx=>?_);cases x<;>rfl
 rw[e,e,this]
theorem gO.fE (h:gO s s')(a m:Int):fE s' a m=fE s a m:=by
 unfold Go.Ar.fE BX;rw[h.l];have:=Lh h.mz a.toNat m.toNat (λb=>b);have e:∀l:List Nat,l.contains 0=l.any λx=>decide (x=0):=λl=>by
  rw[qN];simp only[xU,zw,zV,exists_eq_right]
 rw[e,e,this]
theorem gO.set (h:gO s s'){a m v:Nat}(hl:a+m<=s.st.length):gO (s.set a m v) (s'.set a m v):=by
 refine⟨by simp[Sp.set,Qp,h.l],λp=>?_,?_⟩
 ·show gf (fX s'.st a (a+m) v) p=0↔gf (fX s.st a (a+m) v) p=0;rw[HM (by rw[h.l];exact hl),HM hl];split
  ·exact Iff.rfl
  ·exact h.z p
 ·show(λw=>if a*32<=w/\w<(a+m)*32 then 0 else s'.wd w)=_
  rw[h.w];rfl
theorem Lo {n:Nat}{a m:Int}(h:Zg n a m=true):a.toNat+m.toNat<=n:=by
 by_cases h0:0<=a/\0<=m
 ·obtain⟨a,rfl⟩:=zn h0.1;obtain⟨m,rfl⟩:=zn h0.2;rw[dE,dE];exact(Vx.1 h).2
 ·exfalso;unfold Zg at h;simp at h;omega
theorem gO.gI (h:gO s s')(a m:Int):gO (gI s a m) (gI s' a m):=by
 unfold Go.Ar.gI;rw[h.fI];split
 ·rename_i h0;refine h.set ?_;unfold Go.Ar.fI at h0;split at h0
  ·rename_i hr;exact Lo hr
  ·simp at h0
 ·exact h
theorem gO.dX (h:gO s s')(a m:Int)(v:Nat):gO (dX s a m v) (dX s' a m v):=by
 unfold Go.Ar.dX;rw[h.fE];split
 ·rename_i h0;refine h.set ?_;unfold Go.Ar.fE at h0;split at h0
  ·rename_i hr;exact Lo hr
  ·simp at h0
 ·exact h
theorem LS (s:Sp)(a m:Nat):KS s (gI s (a:Int) (m:Int)):=by
 by_cases h:fI s (a:Int) (m:Int)=0
 ·have g:=DW h;obtain⟨j,i,r,_⟩:=Nt h;refine⟨j,λp d=>?_⟩;have b:¬(a<=p/\p<a+m):=λe=>d (g.2.2 p e.1 e.2);exact⟨by rw[i,zA b];exact d,λw u=>r w O⟩
 ·unfold gI;rw[zA h];exact KS.refl s
theorem gO.cZ (h:gO s s')(size:Nat):cZ s' size=cZ s size:=by
 unfold Go.Ar.cZ;rw[h.l]
 congr 1
 funext x
 rw[h.fI]
theorem gO.dA (h:gO s s')(A:AR)(m a no:Nat):(dA A s' m a no).1=(dA A s m a no).1/\(dA A s' m a no).2.1=(dA A s m a no).2.1/\gO (dA A s m a no).2.2 (dA A s' m a no).2.2/\KS s' (dA A s' m a no).2.2:=by
 unfold Go.Ar.dA;split
 ·exact⟨rfl,rfl,h,KS.refl _⟩
 ·unfold UZ;rw[h.cZ];cases hg:Go.Ar.cZ s (Ke (max m a))with
  | none=>exact⟨rfl,rfl,h,KS.refl _⟩
  | some x=>
   simp only;split
   ·exact⟨rfl,rfl,h.gI _ _,LS _ _ _⟩
   ·exact⟨rfl,rfl,h.gI _ _,LS _ _ _⟩
theorem gO.cO (h:gO s s')(A:AR)(k:Int):(cO A s' k).1=(cO A s k).1/\Va A s' k=Va A s k/\gO (cO A s k).2 (cO A s' k).2/\KS s' (cO A s' k).2:=by
 unfold Go.Ar.cO Va;split
 ·split
  ·rename_i c ss _ _;obtain⟨e,d,a,b⟩:=h.dA A c.aF 1 (k.toNat+1);cases e1:Go.Ar.dA A s c.aF 1 (k.toNat+1)with
   | mk o1 r1=>cases e2:Go.Ar.dA A s' c.aF 1 (k.toNat+1)with
    | mk o2 r2=>
     obtain⟨i,g⟩:=r1;obtain⟨j,m⟩:=r2;rw[e1,e2]at e d a;rw[e2]at b;simp only at e d a b;subst e;subst d;cases o2<;>exact⟨rfl,rfl,a,b⟩
  ·exact⟨rfl,rfl,h,KS.refl _⟩
 ·exact⟨rfl,rfl,h,KS.refl _⟩
theorem gO.cD (h:gO s s')(A:AR)(m a:Int):(cD A s' m a).1=(cD A s m a).1/\QG A s' m a=QG A s m a/\Z7 A s' m a=Z7 A s m a/\gO (cD A s m a).2 (cD A s' m a).2/\KS s' (cD A s' m a).2:=by
 unfold Go.Ar.cD QG Z7;split
 ·obtain⟨g,e,b,d⟩:=h.dA A m.toNat a.toNat 41;cases e1:Go.Ar.dA A s m.toNat a.toNat 41 with
  | mk o1 r1=>cases e2:Go.Ar.dA A s' m.toNat a.toNat 41 with
   | mk o2 r2=>
    obtain⟨j,i⟩:=r1;obtain⟨p,r⟩:=r2;rw[e1,e2]at g e b;rw[e2]at d;simp only at g e b d;subst g;subst e;cases o2<;>exact⟨rfl,rfl,rfl,b,d⟩
 ·exact⟨rfl,rfl,rfl,h,KS.refl _⟩
theorem Lz (s:Sp)(a m:Int)(v:Nat):(dX s a m v).st.length=s.st.length:=by
 unfold Go.Ar.dX;split
 ·simp[Sp.set,Qp]
 ·rfl
theorem gO.Ae:∀(rs:List (Nat×Nat)) {s s':Sp} (A:AR),gO s s'->(rs.foldl fF (A,s')).1=(rs.foldl fF (A,s)).1/\gO (rs.foldl fF (A,s)).2 (rs.foldl fF (A,s')).2/\(rs.foldl fF (A,s')).2.st.length=s'.st.length
 | [],s,s',A,h=>⟨rfl,h,rfl⟩
 | r::rs,s,s',A,h=>by
  rw[oE,oE];obtain⟨h1,h2,h3⟩:=gO.Ae rs (fF (A,s) r).1 (h.dX r.1 r.2 1);exact⟨h1,h2,h3.trans (Lz _ _ _ _)⟩
theorem gO.dV (h:gO s s')(A:AR)(want:Int):(dV A s' want).1=(dV A s want).1/\gO (dV A s want).2 (dV A s' want).2/\(dV A s' want).2.st.length=s'.st.length:=by
 unfold Go.Ar.dV;split
 ·exact⟨rfl,h,rfl⟩
 ·exact gO.Ae _ _ h
theorem gO.vR:∀(rs:List Nat) {s s':Sp} (A:AR),gO s s'->(rs.foldl VB (A,s')).1=(rs.foldl VB (A,s)).1/\gO (rs.foldl VB (A,s)).2 (rs.foldl VB (A,s')).2/\(rs.foldl VB (A,s')).2.st.length=s'.st.length
 | [],s,s',A,h=>⟨rfl,h,rfl⟩
 | r::rs,s,s',A,h=>by
  rw[oE,oE];obtain⟨h1,h2,h3⟩:=gO.vR rs (VB (A,s) r).1 (h.dX ((r*16:Nat):Int) 16 0);exact⟨h1,h2,h3.trans (Lz _ _ _ _)⟩
theorem gO.eL (h:gO s s')(A:AR):(eL A s').1=(eL A s).1/\gO (eL A s).2 (eL A s').2/\(eL A s').2.st.length=s'.st.length:=gO.vR _ _ h
variable {W:Wd}
theorem WnA (h:WI W){cl:Int}{l:List Int}(ho:lJ W.held k cl l=true)(c x:Int):Um (W.held.filter λp=>!eC k cl l p) c x↔Um W.held c x/\¬(c=cl/\x∈l):=by
 constructor
 ·rintro⟨p,hp,h1,h2,h3⟩;obtain⟨a,d⟩:=zF.1 hp;refine⟨⟨p,a,h1,h2,h3⟩,?_⟩;rintro⟨rfl,b⟩;obtain⟨q,i,e⟩:=(KU.1 ho).1 x b;obtain⟨m,u,r,s⟩:=KQ.1 e;obtain rfl:=h.same (p:=p) (q:=q) a i O;have:eC k c l p=true:=Z5.2 ⟨m,h2,by rw[h3];exact b⟩;rw[this]at d;cases d
 ·rintro⟨⟨p,hp,h1,h2,h3⟩,d⟩;refine⟨p,zF.2 ⟨hp,?_⟩,h1,h2,h3⟩;have:eC k cl l p=false:=qd.2 λb=>by
   obtain⟨_,j,g⟩:=Z5.1 b;exact d ⟨h2.symm.trans j,by rw[←h3];exact g⟩
  rw[this];rfl
theorem Wpm {held:List Pc}{cl:Int}{l:List Int}(ho:lJ held k cl l=true):∀x∈l,Um held cl x:=λx g=>by
 obtain⟨q,e,a⟩:=(KU.1 ho).1 x g;obtain⟨j,i,b,d⟩:=KQ.1 a;exact⟨q,e,d,i,b⟩
theorem WkC (h:WI W){cl:Int}{l:List Int}(ho:lJ W.held k cl l=true)(c x:Int):Um (Ge W.held k cl l true) c x↔Um W.held c x/\¬(c=cl/\x∈l):=by
 constructor
 ·rintro⟨p,hp,h1,h2,h3⟩;obtain⟨q,b,rfl⟩:=QS.1 hp;by_cases hof:eC k cl l q=true
  ·rw[zB hof]at h1;cases h1
  ·rw[zA hof]at h1 h2 h3;refine⟨⟨q,b,h1,h2,h3⟩,?_⟩;rintro⟨rfl,hx⟩;obtain⟨r,e,a⟩:=(KU.1 ho).1 x hx;obtain⟨g,s,j,m⟩:=KQ.1 a;obtain rfl:=h.same b e O;exact hof (Z5.2 ⟨g,h2,by rw[h3];exact hx⟩)
 ·rintro⟨⟨p,hp,h1,h2,h3⟩,hn⟩;refine⟨p,QS.2 ⟨p,hp,?_⟩,h1,h2,h3⟩;rw[zA];intro hx;obtain⟨_,i,d⟩:=Z5.1 hx;exact hn ⟨h2.symm.trans i,by rw[←h3];exact d⟩
theorem Wjs {held:List Pc}{cl:Int}{l:List Int}:∀p∈Ge held k cl l true,p.dF=false->p∈held:=λp d a=>by
 obtain⟨q,b,rfl⟩:=QS.1 d;by_cases hof:eC k cl l q=true
 ·rw[zB hof]at a;cases a
 ·rw[zA hof];exact b
theorem RK (h:WI W)(hk:W.bT[k]?=some A){j:Nat}:(∀x∈YN A (j:Int),∀c,¬Um W.held c x)/\(YN A (j:Int)).Nodup/\(∀c x,Um (Ge W.held k j (YN A (j:Int)) false) c x↔Um W.held c x\/(c=j/\x∈YN A (j:Int))) ∧
 (∀p∈Ge W.held k j (YN A (j:Int)) false,p.dF=false->p∈W.held\/∀c,¬Um W.held c (p.addr:Int)):=by
 obtain⟨o,M,C,D,P,Q⟩:=Ms (h.ga k A hk) (j:Int);rw[dE]at C;have B:∀x∈YN A (j:Int),∃q∈W.held,q.k=k/\q.cls=j/\(q.addr:Int)=x/\q.dF=true:=λx d=>by
  have s:=C x d;obtain⟨t,ht,m⟩:=s;have w:j<A.tb.length:=by rw[←(h.ga k A hk).lt];exact(cQ.1 ht).1
  obtain⟨c,F,L,z,K⟩:=(h.ga k A hk).cl w;have u:fA A j x:=(KB z).2 ((h.ga k A hk).nV j c F t z ht x m);obtain⟨q,a,r,i,b⟩:=h.ht k A hk j x u;obtain⟨_,_,_,_,E⟩:=h.cls a i (by rw[r];exact hk);exact⟨q,a,r,i,b,E.2 (by rw[b];exact⟨t,ht,m⟩)⟩
 have e:∀x∈YN A (j:Int),∀c,¬Um W.held c x:=λx d c J=>by
  obtain⟨q,a,_,_,b,y⟩:=B x d;have:=(h.um a J b).1;rw[y]at this;cases this
 refine⟨e,D,λc x=>⟨?_,?_⟩,λp g N=>?_⟩
 ·rintro⟨p,g,h1,h2,h3⟩;obtain⟨q,a,rfl⟩:=QS.1 g;by_cases hof:eC k (j:Int) (YN A (j:Int)) q=true
  ·rw[zB hof]at h2 h3;obtain⟨_,G,H⟩:=Z5.1 hof;exact .inr ⟨h2.symm.trans G,by rw[←h3];exact H⟩
  ·rw[zA hof]at h1 h2 h3;exact .inl ⟨q,a,h1,h2,h3⟩
 ·rintro(⟨p,g,h1,h2,h3⟩|⟨rfl,d⟩)
  ·refine⟨p,QS.2 ⟨p,g,?_⟩,h1,h2,h3⟩;split
   ·rw[←h1]
   ·rfl
  ·obtain⟨q,a,r,i,b,y⟩:=B x d;refine⟨{q with dF:=false},QS.2 ⟨q,a,?_⟩,rfl,i,b⟩;rw[zB (Z5.2 ⟨r,i,by rw[b];exact d⟩)]
 ·obtain⟨q,a,rfl⟩:=QS.1 g;by_cases hof:eC k (j:Int) (YN A (j:Int)) q=true
  ·rw[zB hof];exact .inr (e _ (Z5.1 hof).2.2)
  ·rw[zA hof];exact .inl a
theorem FU {tb:List bY}{bT:List AR}{sp:Sp}{held new:List Pc}(h:WI ⟨tb,sp,bT,held++new⟩):∀p∈new,∀c,¬Um held c (p.addr:Int):=by
 rintro p d c ⟨q,b,_,_,g⟩;have e:=h.same (p:=p) (q:=q) (sY _ d) (qP _ b) O;have a:=h.hk;simp only[zy]at a;rw[qQ]at a;exact a.2.2 q.key (zC.2 ⟨q,b,rfl⟩) p.key (zC.2 ⟨p,d,rfl⟩) (by rw[e])
theorem JB {held new:List Pc}{cl:Int}{l:List Int}(h1:∀p∈new,p.dF=false/\p.cls=cl/\(p.addr:Int)∈l)(h2:∀x∈l,∃p∈new,(p.addr:Int)=x)(c x:Int):Um (held++new) c x↔Um held c x\/(c=cl/\x∈l):=by
 constructor
 ·rintro⟨p,b,a1,a2,a3⟩;rcases zU.1 b with b|b
  ·exact .inl ⟨p,b,a1,a2,a3⟩
  ·obtain⟨_,g,d⟩:=h1 p b;exact .inr ⟨a2.symm.trans g,by rw[←a3];exact d⟩
 ·rintro(⟨p,b,a⟩|⟨rfl,hx⟩)
  ·exact⟨p,qP _ b,a⟩
  ·obtain⟨p,b,e⟩:=h2 x hx;exact⟨p,sY _ b,(h1 p b).1,(h1 p b).2.1,e⟩
theorem LF {tb:List bY}{bT:List AR}{sp:Sp}{held new:List Pc}(h:WI ⟨tb,sp,bT,held++new⟩):∀p∈held++new,p.dF=false->p∈held\/∀c,¬Um held c (p.addr:Int):=λp a _=>by
 rcases zU.1 a with a|a
 ·exact .inl a
 ·exact .inr (FU h p a)
theorem Wox {held:List Pc}(us:List AR)(c x:Int):Um (yZ us held) c x↔Um held c x:=by
 unfold yZ;constructor
 ·rintro⟨p,hp,h⟩;exact⟨p,(zF.1 hp).1,h⟩
 ·rintro⟨p,hp,h1,h⟩;exact⟨p,zF.2 ⟨hp,by rw[h1];rfl⟩,h1,h⟩
theorem Vl {ss:List cH}:∀{i:Nat},Zw ss i=none->∀k,k<i->∀s,ss[k]?=some s->¬s.many<s.tk.length
 | 0,_,k,hk,_,_=>by omega
 | i+1,h,k,hk,s,hs=>by
  unfold Zw at h;by_cases hki:k=i
  ·subst hki;rw[hs]at h;simp only at h;intro hlt;rw[zB hlt]at h;split at h
   ·split at h
    ·split at h<;>cases h
    ·cases h
   ·cases h
  ·cases hi:ss[i]? with
   | none=>
    rw[hi]at h;exact Vl h k O s hs
   | some x=>
    rw[hi]at h;simp only at h;split at h
    ·split at h
     ·split at h
      ·split at h<;>cases h
      ·cases h
     ·exact Vl (by assumption) k O s hs
    ·exact Vl h k O s hs
theorem Wh8 (h:GA A)(hw:Ow A sp){j:Nat}(hE:Va A sp (j:Int)=0){w:Nat}(h1:1<=w):Yu (cO A sp (j:Int)).1 (j:Int) (w:Int)≠[]:=by
 rcases Lc h hw (j:Int)with⟨_,hn⟩|⟨j',c,ss,x,A1,sp1,hj,hk,hk1,_,e,hst,r1,r2,r3,_,hd,hS⟩
 ·exact(hn hE).elim
 ·obtain rfl:j=j':=by omega
  have a:Cl (cO A sp (j:Int)).1 j c (iQ c ss x):=by
   rw[e];have m:Cl (dU A1 x c.aF (j+1)) j c ss:=hk1;exact Hm m _
  have B:=hS.ga.cB j c _ a;have b:(⟨x,List.replicate c.n false⟩:cH)∈iQ c ss x:=VH.2 (.inl rfl);have p:(cO A sp (j:Int)).1.ck (j:Int)=true:=HO.2 ⟨j,rfl,a.lt⟩;unfold Yu QL VQ;rw[p,zB rfl,zA (show ¬((w:Int)<0) by omega),zB rfl,dE,dE,a.1,a.2];simp only;obtain⟨w,rfl⟩:∃v,w=v+1:=⟨w-1,O⟩;cases ho:kE c (iQ c ss x)with
  | some r=>
   obtain⟨y,C⟩:=r;rw[Gk ho];simp
  | none=>
   exfalso;unfold kE qG at ho;obtain⟨l,z⟩:=zM b;have g:=(cQ.1 z).1;have d:(⟨x,List.replicate c.n false⟩:cH).many<(⟨x,List.replicate c.n false⟩:cH).tk.length:=by
    have:=B.ok.qY;simp[cH.many,CX];omega
   cases hb:Zw (iQ c ss x) (iQ c ss x).length with
   | none=>exact Vl hb l g _ z d
   | some i=>
    rw[hb]at ho;obtain⟨_,s,E,u⟩:=QX hb;obtain⟨r,D,_⟩:=Ct u;simp only[E,D]at ho;cases ho
end Go.Ar
namespace Go.Ar
open Go.Vc (bW dG cR)
variable {H:Hw}{held:List Pc}{s0:Sp}{t k:Nat}{g:Th}{A:AR}{c:bY}
theorem Z6 {p:Ph}{H1:Hw}{g1:Th}{nx:Option Ph}{a e:Int}(ht:t<H.bR.length)(hs:Wt H t p=({H1 with bR:=H.bR.set t g1},nx,a,e)):Q1 H t p = {H1 with bR:=H.bR.set t {g1 with ph:=nx}}:=by
 unfold Q1;rw[hs];show Hw.eA _ t _=_;rw[ZN (g:=g1) (by simp[ht])];simp only[rU]
structure jK (H:Hw) (t:Nat) (p:Ph):Prop where
 ok:yC H t p
 hi:∃held s0,HI (Q1 H t p) held s0
 ks:KS H.sp (Q1 H t p).sp
theorem jK.mk' {p:Ph}(hg:H.bR[t]?=some g)(hl:g.bP.length<=41)(h1:yv H t p){H':Hw}{held':List Pc}{s0':Sp}(e:Q1 H t p=H')(h2:HI H' held' s0')(h3:KS H.sp H'.sp):jK H t p:=
 ⟨⟨h1,λb a=>by rw[hg]at a;cases a;omega⟩,⟨held',s0',by rw[e];exact h2⟩,by rw[e];exact h3⟩
def Rq (tb:List bY)(g:Th):Ph->Int->Int->Prop
 | .take k,cl,sz=>cl=k/\∃c,tb[k]?=some c/\sz=c.size
 | .cN k _,cl,sz=>cl=k/\∃c,tb[k]?=some c/\sz=c.size
 | .cP k _,cl,sz=>cl=k/\∃c,tb[k]?=some c/\sz=c.size
 | .grow k _,cl,sz=>cl=k/\∃c,tb[k]?=some c/\sz=c.size
 | .fill,cl,sz=>∃k xs r c,g.bP=(k,xs)::r/\cl=k/\tb[k]?=some c/\sz=c.size
 | .eU m,cl,sz=>cl = -1/\sz=((m*256:Nat):Int)
 | _,_,_=>False
def tG (H:Hw)(t:Nat):Ph->Nat
 | .take _=>5
 | .cN _ _=>4
 | .cP k w=>if Yu (H.eO t) (k:Int) (w:Int)=[]then 3 else 1
 | .grow _ _=>2
 | _=>0
def xN (H:Hw)(t:Nat)(p:Ph)(cl sz:Int):Prop:=
 (∃p' g',(Wt H t p).2.1=some p'/\(Q1 H t p).live=H.live/\(Q1 H t p).bR[t]?=some g'/\Rq H.tb g' p' cl sz/\tG (Q1 H t p) t p'<tG H t p) ∨
 ((Wt H t p).2.1=none/\(Wt H t p).2.2.2≠0/\(Wt H t p).2.2.1=0/\(Q1 H t p).live=H.live) ∨
 ((Wt H t p).2.1=none/\(Wt H t p).2.2.2=0/\bW H.live (Wt H t p).2.2.1=none/\(Q1 H t p).live=dG H.live (Wt H t p).2.2.1 ((Wt H t p).2.2.1,sz,cl,YM (Q1 H t p).bT (Wt H t p).2.2.1))
theorem HI.mem (h:HI H held s0)(hg:H.bR[t]?=some g):g∈H.bR:=zE hg
theorem HI.mP (h:HI H held s0)(t:Nat):H.own t<H.bT.length:=yq _ (by have:=h.a1;omega)
theorem HI.eO (h:HI H held s0)(t:Nat):H.bT[H.own t]?=some (H.eO t):=by
 have a:=cM (h.mP t);rw[Iv a];exact a
theorem HI.qz (h:HI H held s0):H.tb.length<=40:=by
 have a:=h.eO 0;have:=(h.wi.ga _ _ a).tb;rw[h.wi.tb _ _ a]at this;exact this
theorem HI.cls (h:HI H held s0)(hk:k<H.tb.length):∃c,H.tb[k]?=some c/\c.ok:=⟨H.tb[k],cM hk,h.ok _ (zf hk)⟩
theorem xG.li {m:Nat}(h:xG m g)(hk:k<m):∃l,g.ls[k]?=some l/\g.li k=l/\fW l/\l.os.length<=128:=by
 have a:=cM (l:=g.ls) (i:=k) (by rw[h.ll];exact hk);have:=h.lo _ (zf (by rw[h.ll];exact hk));exact⟨_,a,BP a,this.1,this.2⟩
theorem xG.jA {m:Nat}(h:xG m g){l':Li}(h1:fW l')(h2:l'.os.length<=128):(g.ls.set k l').length=m/\∀l∈g.ls.set k l',fW l/\l.os.length<=128:=by
 refine⟨by rw[sx];exact h.ll,λl a=>?_⟩;rcases AE a with a|rfl
 ·exact h.lo l a
 ·exact⟨h1,h2⟩
theorem Wpd {ls:List Li}{l':Li}{hs:List Bt}{ph:Option Ph}(hk:k<ls.length):(⟨ls.set k l',hs,ph⟩:Th).li k=l':=by
 unfold Th.li;rw[Od l' k hk,zB rfl]
theorem HI.Ay (h:HI H held s0){y:Int}(hu:Um held (k:Int) y)(hc:H.tb[k]?=some c):Lv held (y,(y,(c.size:Int),(k:Int),YM H.bT y)):=by
 obtain⟨p,d,i,e,rfl⟩:=hu;obtain⟨A,g,_⟩:=h.wi.hf p d;obtain⟨c',b,j,_⟩:=h.wi.cls d e g;rw[h.wi.tb _ _ g]at b;have a:H.tb[k]?=some c':=b;rw[hc]at a;cases a;exact⟨rfl,p,d,i,e,rfl,by rw[j],by rw[h.uc d]⟩
theorem CG {ls:List Li}{l:Li}(hl:ls[k]?=some l)(l':Li)(k' x:Int):nG (ls.set k l') k' x+(if(k:Int)=k' then l.os.count x else 0)=nG ls k' x+(if(k:Int)=k' then l'.os.count x else 0):=by
 have:=Pb l' (cQ.1 hl).1 k' x;rw[zL,hl]at this;exact this
theorem Wod {ls:List Li}{l:Li}(hl:ls[k]?=some l)(x:Int):nG ls (k:Int) x=l.os.count x:=by
 rw[Au,zL,hl];rfl
theorem Woh (h:HI H held s0)(hg:H.bR[t]?=some g)(hph:g.ph=some (.take k)){cl sz:Int}(hr:Rq H.tb g (.take k) cl sz):jK H t (.take k)/\xN H t (.take k) cl sz:=by
 have K:=(cQ.1 hg).1;have b:=h.th g (h.mem hg);obtain⟨Q,p⟩:g.bP=[]/\k<H.tb.length:=by have:=b.ph;unfold iU at this;rw[hph]at this;exact this
 obtain⟨rfl,c,m,rfl⟩:=hr;have r:=h.ok c (zE m);obtain⟨l,hl,i,N,R⟩:=b.li p;have d:=Mf r N;have j:=G0 hg;cases hT:Km c l with
 | mk o l'=>
  rw[hT]at d;cases o with
  | some y=>
   have C:Wt H t (.take k)=({{H with live:=dG H.live y (y,(c.size:Int),(k:Int),YM H.bT y)}with bR:=H.bR.set t {g with ls:=g.ls.set k l'}},none,y,0):=by
    simp only[Wt,j,Up m,i,hT,VW,ZN hg,Th.jA]
   have e:=Z6 K C;have w:1<=gV g (k:Int) y:=by
    have:=OE hT y;rw[Fy]at this;unfold gV;rw[Wod hl];omega
   have P:=h.uY (h.mem hg) w;have M:=h.pE (h.mem hg) w;have A:l'.os.length<=128:=by
    have:l'.os.length<=l.os.length:=by
     unfold Km at hT;split at hT
     ·cases hT
     ·cases hT;simp
    omega
   obtain⟨ll,L⟩:=b.jA (k:=k) d A;have G:=h.nR hg (g':={g with ls:=g.ls.set k l',ph:=none}) (live':=dG H.live y (y,(c.size:Int),(k:Int),YM H.bT y)) (λE x=>by
    rw[EL _ M];have D:=CG hl l' E x;have W:=OE hT x;unfold gV;rw[hph];simp only[lT];by_cases hkk:(k:Int)=E
    ·simp only[hkk,zW]at D ⊢;omega
    ·simp only[hkk,zz]at D ⊢;omega)
    (Go.Vc.iB h.lk) (λS z=>by
     rcases(F0 M).1 z with z|rfl
     ·exact .inl z
     ·exact .inr (h.Ay P m))
    (λs a F=>by cases F) ⟨ll,L,b.hb,b.hl,by unfold iU;exact Q⟩
   refine⟨jK.mk' hg b.hl ⟨p,λU J u=>?_⟩ e G (KS.refl _),.inr (.inr ?_)⟩
   ·rw[j,i,Up m,hT]at u;cases u;exact(h.i63 P).1
   ·rw[e,C];exact⟨rfl,rfl,M,rfl⟩
  | none=>
   have C:Wt H t (.take k)=({H with bR:=H.bR.set t {g with ls:=g.ls.set k l'}},some (.cN k (tW c l')),0,0):=by
    simp only[Wt,j,Up m,i,hT,ZN hg,Th.jA]
   have e:=Z6 K C;obtain⟨o1,o2⟩:=Wjq hT;obtain⟨ll,L⟩:=b.jA (k:=k) d (by rw[o2];simp);have B:=d.rr;have V:1<=tW c l'/\tW c l'<=32:=by
    unfold bY.ok at r;unfold tW;simp only at B;omega
   have G:=h.nR hg (g':={g with ls:=g.ls.set k l',ph:=some (.cN k (tW c l'))}) (live':=H.live) (λE x=>by
    have D:=CG hl l' E x;rw[o1,o2]at D;unfold gV;rw[hph];simp only[lT];omega) h.lk (λS z=>.inl z) (λs a F=>by cases F) ⟨ll,L,b.hb,b.hl,by
     unfold iU;exact⟨Q,p,by rw[Wpd (by rw[b.ll];exact p)];exact o2,V⟩⟩
   refine⟨jK.mk' hg b.hl ⟨p,λU J u=>?_⟩ e G (KS.refl _),.inl ?_⟩
   ·rw[j,i,Up m,hT]at u;cases u
   ·rw[e,C];exact⟨_,_,rfl,rfl,zO K,⟨rfl,c,m,rfl⟩,by simp[tG]⟩
theorem GV (h:GA A)(h0:Z9 A (k:Int)=0)(hc:A.tb[k]?=some c):∃x xs,YN A (k:Int)=x::xs/\xs.length+1=c.batch:=by
 have b:YN A (k:Int)=(match A.cE[k]? with
  | some t=>t.bs.getLast?.getD []
  | none=>[]):=by unfold YN;rw[zB h0,dE];rfl
 unfold Z9 at h0;rw[dE]at h0;split at h0
 ·split at h0
  ·rename_i t ht;split at h0
   ·cases h0
   ·rename_i hb;rw[ht]at b;simp only at b;have m:t.bs.getLast?=some (t.bs.getLast hb):=List.getLast?_eq_some_getLast hb;rw[m]at b;simp only[sS]at b;have:=h.rj k c t hc ht _ (List.getLast_mem hb);rw[←b]at this;have j:=h.cB;cases hx:YN A (k:Int)with
    | nil=>
     rw[hx]at this;have e:k<A.tb.length:=(cQ.1 hc).1;obtain⟨g,i,_,a,_⟩:=h.cl e;have d:g=c:=Option.some.inj (a.1.symm.trans hc);have:=(h.cB k g i a).ok;unfold bY.ok at this;simp at *;subst d;omega
    | cons x xs=>exact⟨x,xs,rfl,by rw[hx]at this;simpa using this⟩
  ·cases h0
 ·cases h0
theorem O6 (h:HI H held s0)(hg:H.bR[t]?=some g){w:Nat}(hph:g.ph=some (.cN k w)){cl sz:Int}(hr:Rq H.tb g (.cN k w) cl sz):jK H t (.cN k w)/\xN H t (.cN k w) cl sz:=by
 have C:=(cQ.1 hg).1;have d:=h.th g (h.mem hg);obtain⟨K,A,m,X⟩:g.bP=[]/\k<H.tb.length/\(g.li k).os=[]/\1<=w/\w<=32:=by have:=d.ph;unfold iU at this;rw[hph]at this;exact this
 obtain⟨rfl,c,i,rfl⟩:=hr;have F:=h.ok c (zE i);have p:=F;unfold bY.ok at p;have D:=h.eO t;have ga:=h.wi.ga _ _ D;have r:(H.eO t).tb[k]?=some c:=by rw[h.wi.tb _ _ D];exact i
 have M:yv H t (.cN k w):=⟨A,λB=>by
  obtain⟨x,u,e,_⟩:=GV ga B r;rw[e];simp⟩
 by_cases hcase:w=c.batch/\Z9 (H.eO t) (k:Int)=0
 ·obtain⟨rfl,B⟩:=hcase;obtain⟨x,u,L,V⟩:=GV ga B r;have z:Wt H t (.cN k c.batch)=({H.cC (H.own t) (ZR (H.eO t) (k:Int))with bR:=H.bR.set t {g with bP:=[(k,x::u)]}},some .fill,0,0):=by
   simp only[Wt,Up i,zW,B,Q2,L];rw[ZN (g:=g) (by exact hg),K];rfl
  have e:=Z6 (H1:=H.cC (H.own t) (ZR (H.eO t) (k:Int))) C z;obtain⟨S,U,Q,N⟩:=RK h.wi D (j:=k);have wi:=h.wi.Aq D (k:Int);have G:=h.fS hg (g':={g with bP:=[(k,x::u)],ph:=some .fill}) (live':=H.live) wi h.lW rfl (by simp[Wd.put]) N (λW y=>by
   rw[Ee U (λy R=>S y R _) Q,L];unfold gV;rw[hph,K];simp only[lT,KO,VV];omega) h.lk (λP J=>.inl J) (λs a E=>by cases E) ⟨d.ll,d.lo,λb hb=>by
    simp only[zZ]at hb;subst hb;exact⟨A,by simp,by simp;omega⟩,by simp,by
    unfold iU;exact⟨k,x,u,rfl,A,m,O⟩⟩
  refine⟨jK.mk' hg d.hl M e G (KS.refl _),.inl ?_⟩;rw[e,z];exact⟨_,_,rfl,rfl,zO C,⟨k,x::u,[],c,rfl,rfl,i,rfl⟩,by simp[tG]⟩
 ·have z:Wt H t (.cN k w)=({H with bR:=H.bR.set t g},some (.cP k w),0,0):=by
   have:H.bR.set t g=H.bR:=Qq hg;rw[this];simp only[Wt,Up i];split
   ·split
    ·exact(hcase ⟨by assumption,by assumption⟩).elim
    ·rfl
   ·rfl
  have e:=Z6 C z;have G:=h.nR hg (g':={g with ph:=some (.cP k w)}) (live':=H.live) (λW x=>by
   unfold gV;rw[hph];simp only[lT]) h.lk (λP J=>.inl J) (λs a E=>by cases E) ⟨d.ll,d.lo,d.hb,d.hl,by
    unfold iU;exact⟨K,A,m,X⟩⟩
  refine⟨jK.mk' hg d.hl M e G (KS.refl _),.inl ?_⟩;rw[e,z];refine⟨_,_,rfl,rfl,zO C,⟨rfl,c,i,rfl⟩,?_⟩;simp only[tG];split<;>omega
theorem Wdt (h:GA A)(j w:Nat):(Yu A (j:Int) (w:Int)).length<=w:=by
 unfold Yu;split
 ·rename_i h0;have b:A.ck (j:Int)=true:=by
   unfold QL at h0;split at h0
   ·assumption
   ·cases h0
  obtain⟨i,m,e⟩:=HO.1 b;obtain⟨c,d,t,a,g⟩:=h.cl e;have:i=j:=by omega
  subst this;unfold VQ;rw[dE,dE,a.1,a.2];exact(GQ w (h.cB i c d a)).2.2.1
 ·simp
theorem WkZ (H:Hw)(t:Nat)(B:AR)(h:H.own t<H.bT.length)(sp:Sp)(bR:List Th):Hw.eO {H.cC (H.own t) B with sp:=sp,bR:=bR} t=B:=by
 refine Iv ?_;have:Hw.own {H.cC (H.own t) B with sp:=sp,bR:=bR} t=H.own t:=by unfold Hw.own Hw.cC;simp
 rw[this];simp[Hw.cC,h]
theorem PW (h:HI H held s0)(hg:H.bR[t]?=some g){w:Nat}(hph:g.ph=some (.cP k w)){cl sz:Int}(hr:Rq H.tb g (.cP k w) cl sz):jK H t (.cP k w)/\xN H t (.cP k w) cl sz:=by
 have C:=(cQ.1 hg).1;have d:=h.th g (h.mem hg);obtain⟨J,D,u,S⟩:g.bP=[]/\k<H.tb.length/\(g.li k).os=[]/\1<=w/\w<=32:=by have:=d.ph;unfold iU at this;rw[hph]at this;exact this
 obtain⟨rfl,c,K,rfl⟩:=hr;have L:=h.eO t;have ga:=h.wi.ga _ _ L;have wi:=h.wi.from L (k:Int) (w:Int);have j:=Wdt ga k w;have m:=(M7 ga (k:Int) (w:Int)).2.2.1;cases hv:Yu (H.eO t) (k:Int) (w:Int)with
 | nil=>
  have B:Wt H t (.cP k w)=({H.cC (H.own t) (YR (H.eO t) (k:Int) (w:Int))with bR:=H.bR.set t g},some (.grow k w),0,0):=by
   have:H.bR.set t g=H.bR:=Qq hg;rw[this];simp only[Wt,hv,zW,Hw.cC]
  have e:=Z6 (H1:=H.cC (H.own t) (YR (H.eO t) (k:Int) (w:Int))) C B;rw[hv]at wi;simp only[uB,lZ]at wi;have E:=h.fS hg (g':={g with ph:=some (.grow k w)}) (live':=H.live) wi h.lW rfl (by simp[Wd.put]) (λp i _=>.inl i) (λQ y=>by
   unfold gV;rw[hph];simp only[lT]) h.lk (λN G=>.inl G) (λs a i=>by cases i) ⟨d.ll,d.lo,d.hb,d.hl,by
    unfold iU;exact⟨J,D,u,S⟩⟩
  refine⟨jK.mk' hg d.hl trivial e E (KS.refl _),.inl ?_⟩;rw[e,B];exact⟨_,_,rfl,rfl,zO C,⟨rfl,c,K,rfl⟩,by simp[tG,hv]⟩
 | cons v vs=>
  have B:Wt H t (.cP k w)=({H.cC (H.own t) (YR (H.eO t) (k:Int) (w:Int))with bR:=H.bR.set t {g with bP:=[(k,(v::vs).map λ(x:Nat)=>(x:Int))]}},some .fill,0,0):=by
   simp only[Wt,hv,Q2];rw[zA aA,ZN (g:=g) (by exact hg),J];rfl
  have e:=Z6 (H1:=H.cC (H.own t) (YR (H.eO t) (k:Int) (w:Int))) C B;rw[hv]at wi j m;have A:((v::vs).map λ(x:Nat)=>(x:Int)).Nodup:=List.Pairwise.map (R:=(· ≠ ·)) _ (λa b F e=>F O) m;have app:=JB (held:=held) (new:=(v::vs).map λy=>(⟨H.own t,(k:Int),y,tg H.tb (k:Int),false⟩:Pc)) (cl:=(k:Int)) (l:=(v::vs).map λ(x:Nat)=>(x:Int)) (λp i=>by
   obtain⟨y,r,rfl⟩:=zC.1 i;exact⟨rfl,rfl,zC.2 ⟨y,r,rfl⟩⟩) λx P=>by
   obtain⟨y,r,rfl⟩:=zC.1 P;exact⟨_,zC.2 ⟨y,r,rfl⟩,rfl⟩
  have new:=FU wi;have E:=h.fS hg (g':={g with bP:=[(k,(v::vs).map λ(x:Nat)=>(x:Int))],ph:=some .fill}) (live':=H.live) wi h.lW rfl (by simp[Wd.put]) (LF wi) (λQ y=>by
   rw[Ee A (λy r=>by
    obtain⟨z,M,rfl⟩:=zC.1 r;exact new ⟨H.own t,(k:Int),z,tg H.tb (k:Int),false⟩ (zC.2 ⟨z,M,rfl⟩) _) app]
   unfold gV;rw[hph,J];simp only[lT,KO,VV];omega) h.lk (λN G=>.inl G) (λs a i=>by cases i) ⟨d.ll,d.lo,λb hb=>by
    simp only[zZ]at hb;subst hb;exact⟨D,by simp,by simp at j ⊢;omega⟩,by simp,by
    unfold iU;exact⟨k,(v:Int),vs.map λ(x:Nat)=>(x:Int),rfl,D,u,by simp at j ⊢;omega⟩⟩
  refine⟨jK.mk' hg d.hl trivial e E (KS.refl _),.inl ?_⟩;rw[e,B];refine⟨_,_,rfl,rfl,zO C,⟨k,_,[],c,rfl,rfl,K,rfl⟩,?_⟩;simp[tG,hv]
theorem Po (h:HI H held s0)(hg:H.bR[t]?=some g){w:Nat}(hph:g.ph=some (.grow k w)){cl sz:Int}(hr:Rq H.tb g (.grow k w) cl sz):jK H t (.grow k w)/\xN H t (.grow k w) cl sz:=by
 have z:=(cQ.1 hg).1;have b:=h.th g (h.mem hg);obtain⟨E,G,A,F⟩:g.bP=[]/\k<H.tb.length/\(g.li k).os=[]/\1<=w/\w<=32:=by have:=b.ph;unfold iU at this;rw[hph]at this;exact this
 obtain⟨rfl,c,L,rfl⟩:=hr;have B:=h.eO t;have ga:=h.wi.ga _ _ B;obtain⟨C,J,D,r⟩:=h.lW.cO (H.eO t) (k:Int);have wi:=h.wi.grow B (k:Int);by_cases h0:Va (H.eO t) H.sp (k:Int)=0
 ·have m:Wt H t (.grow k w)=({{H.cC (H.own t) (cO (H.eO t) H.sp (k:Int)).1 with sp:=(cO (H.eO t) H.sp (k:Int)).2}with bR:=H.bR.set t g},some (.cP k w),0,0):=by
   have:H.bR.set t g=H.bR:=Qq hg;rw[this];simp only[Wt,h0,zW,Hw.cC]
  have e:=Z6 (H1:={H.cC (H.own t) (cO (H.eO t) H.sp (k:Int)).1 with sp:=(cO (H.eO t) H.sp (k:Int)).2}) z m;have d:=Wh8 ga (h.wi.ow _ _ B) (j:=k) (by rw[←J];exact h0) F.1;rw[show(Wd.mk H.tb s0 H.bT held).sp=s0 from rfl,←C]at d;rw[show(Wd.mk H.tb s0 H.bT held).sp=s0 from rfl,←C]at wi;have x:=h.fS hg (g':={g with ph:=some (.cP k w)}) (live':=H.live) wi D r.l (by simp[Wd.put]) (λp i _=>.inl i) (λM y=>by
   unfold gV;rw[hph];simp only[lT]) h.lk (λK u=>.inl u) (λs a i=>by cases i) ⟨b.ll,b.lo,b.hb,b.hl,by
    unfold iU;exact⟨E,G,A,F⟩⟩
  refine⟨jK.mk' hg b.hl trivial e x r,.inl ?_⟩;rw[e,m];refine⟨_,_,rfl,rfl,zO z,⟨rfl,c,L,rfl⟩,?_⟩;have:=WkZ H t (cO (H.eO t) H.sp (k:Int)).1 (h.mP t) (cO (H.eO t) H.sp (k:Int)).2 (H.bR.set t {g with ph:=some (.cP k w)});simp only[tG];rw[this,zA d];omega
 ·have m:Wt H t (.grow k w)=({{H.cC (H.own t) (cO (H.eO t) H.sp (k:Int)).1 with sp:=(cO (H.eO t) H.sp (k:Int)).2}with bR:=H.bR.set t g},none,0,Va (H.eO t) H.sp (k:Int)):=by
   have:H.bR.set t g=H.bR:=Qq hg;rw[this];simp only[Wt,h0,zz,Hw.cC]
  have e:=Z6 (H1:={H.cC (H.own t) (cO (H.eO t) H.sp (k:Int)).1 with sp:=(cO (H.eO t) H.sp (k:Int)).2}) z m;rw[show(Wd.mk H.tb s0 H.bT held).sp=s0 from rfl,←C]at wi;have x:=h.fS hg (g':={g with ph:=none}) (live':=H.live) wi D r.l (by simp[Wd.put]) (λp i _=>.inl i) (λM y=>by
   unfold gV;rw[hph];simp only[lT]) h.lk (λK u=>.inl u) (λs a i=>by cases i) ⟨b.ll,b.lo,b.hb,b.hl,by
    unfold iU;exact E⟩
  refine⟨jK.mk' hg b.hl trivial e x r,.inr (.inl ?_)⟩;rw[e,m];exact⟨rfl,h0,rfl,rfl⟩
theorem SI (h:HI H held s0)(hg:H.bR[t]?=some g)(hph:g.ph=some .fill){cl sz:Int}(hr:Rq H.tb g .fill cl sz):jK H t .fill/\xN H t .fill cl sz:=by
 have P:=(cQ.1 hg).1;have j:=h.th g (h.mem hg);obtain⟨k,x,xs,A,F,d,R⟩:∃k x xs,g.bP=[(k,x::xs)]/\k<H.tb.length/\(g.li k).os=[]/\xs.length<=128:=by have:=j.ph;unfold iU at this;rw[hph]at this;exact this
 obtain⟨k',W,r,c,z,rfl,G,rfl⟩:=hr;rw[A]at z;obtain⟨i, -⟩:=List.cons.inj z;obtain rfl:k=k':=congrArg Prod.fst i;obtain⟨l,hl,p,E,L⟩:=j.li F;have u:=G0 hg;rw[p]at d;have m:(eM xs.reverse l).os=xs.reverse:=by unfold eM;rw[d,zA aE];simp
 have K:Wt H t .fill=({{H with live:=dG H.live x (x,(c.size:Int),(k:Int),YM H.bT x)}with bR:=H.bR.set t {ls:=g.ls.set k (eM xs.reverse l),bP:=[],ph:=g.ph}},none,x,0):=by
  simp only[Wt,u,A,Up G,VW,ZN hg,p]
 have e:=Z6 P K;have w:1<=gV g (k:Int) x:=by
  unfold gV;rw[A,KO,zB rfl];have:1<=(x::xs).count x:=AP.2 aA;simp only;omega
 have J:=h.uY (h.mem hg) w;have C:=h.pE (h.mem hg) w;obtain⟨S,Q⟩:=j.jA (k:=k) (BN (xs:=xs.reverse) E) (by rw[m];simp;omega);have N:=h.nR hg (g':={ls:=g.ls.set k (eM xs.reverse l),bP:=[],ph:=none}) (live':=dG H.live x (x,(c.size:Int),(k:Int),YM H.bT x)) (λk' y=>by
  rw[EL _ C];have B:=CG hl (eM xs.reverse l) k' y;rw[d,m,List.count_reverse,List.count_nil]at B;have X:(x::xs).count y=[x].count y+xs.count y:=wP (l₁:=[x]) (l₂:=xs);unfold gV;rw[hph,A];simp only[lT,KO,VV];by_cases i:(k:Int)=k'
  ·simp only[i,zW]at B ⊢;omega
  ·simp only[i,zz]at B ⊢;omega)
  (Go.Vc.iB h.lk) (λV D=>by
   rcases(F0 C).1 D with D|rfl
   ·exact .inl D
   ·exact .inr (h.Ay J G))
  (λs a M=>by cases M) ⟨S,Q,λb U=>by simp at U,by simp,by unfold iU;rfl⟩
 refine⟨jK.mk' hg j.hl ⟨k,x,xs,[],by rw[u];exact A,F,(h.i63 J).1,by rw[u,p,d];simp;omega⟩ e N (KS.refl _),.inr (.inr ?_)⟩;rw[e,K];exact⟨rfl,rfl,C,rfl⟩
theorem Χ (h:HI H held s0)(hg:H.bR[t]?=some g){m:Nat}(hph:g.ph=some (.eU m)){cl sz:Int}(hr:Rq H.tb g (.eU m) cl sz):jK H t (.eU m)/\xN H t (.eU m) cl sz:=by
 have M:=(cQ.1 hg).1;have b:=h.th g (h.mem hg);obtain⟨P,S,R⟩:g.bP=[]/\1<=m/\m<=64:=by have:=b.ph;unfold iU at this;rw[hph]at this;exact this
 obtain⟨rfl,rfl⟩:=hr;have N:=h.eO t;have ga:=h.wi.ga _ _ N;obtain⟨U,W,Y,K,B⟩:=h.lW.cD (H.eO t) (m:Int) 1;have wi:=h.wi.AV N (m:Int) 1;rw[show(Wd.mk H.tb s0 H.bT held).sp=s0 from rfl,←U,←W,←Y]at wi;by_cases h0:QG (H.eO t) H.sp (m:Int) 1=0
 ·rw[zB h0]at wi;have j:=FU wi;have u:=JB (held:=held) (new:=[(⟨H.own t, -1,Z7 (H.eO t) H.sp (m:Int) 1*256,(m:Int).toNat*256,false⟩:Pc)]) (cl:=-1) (l:=[((Z7 (H.eO t) H.sp (m:Int) 1*256:Nat):Int)]) (λp d=>by
   simp only[zZ]at d;subst d;exact⟨rfl,rfl,by simp⟩) λx C=>by
   simp only[zZ]at C;subst C;exact⟨_,zZ.2 rfl,rfl⟩
  have i:(⟨H.own t, -1,Z7 (H.eO t) H.sp (m:Int) 1*256,(m:Int).toNat*256,false⟩:Pc)∈held++[(⟨H.own t, -1,Z7 (H.eO t) H.sp (m:Int) 1*256,(m:Int).toNat*256,false⟩:Pc)]:=by simp
  have G:=wi.size_pos i;have w:=wi.lY i;have E:=wi.owner i (x:=Z7 (H.eO t) H.sp (m:Int) 1*256) (zD _) (by simp only at G ⊢;omega);generalize D:Z7 (H.eO t) H.sp (m:Int) 1=V at *;have r:bW H.live ((V*256:Nat):Int)=none:=h.wG λJ X=>j _ (zZ.2 rfl) J X;have A:Wt H t (.eU m)=({{H.cC (H.own t) (cD (H.eO t) H.sp (m:Int) 1).1 with sp:=(cD (H.eO t) H.sp (m:Int) 1).2,live:=dG H.live ((V*256:Nat):Int) (((V*256:Nat):Int),((m*256:Nat):Int), -1,YM (H.bT.set (H.own t) (cD (H.eO t) H.sp (m:Int) 1).1) ((V*256:Nat):Int))}with bR:=H.bR.set t g},none,((V*256:Nat):Int),0):=by
   have:H.bR.set t g=H.bR:=Qq hg;rw[this];simp only[Wt,h0,zW,Hw.cC,VW,D]
  have e:=Z6 (H1:={H.cC (H.own t) (cD (H.eO t) H.sp (m:Int) 1).1 with sp:=(cD (H.eO t) H.sp (m:Int) 1).2,live:=dG H.live ((V*256:Nat):Int) (((V*256:Nat):Int),((m*256:Nat):Int), -1,YM (H.bT.set (H.own t) (cD (H.eO t) H.sp (m:Int) 1).1) ((V*256:Nat):Int))}) M A;have F:=h.fS hg (g':={g with ph:=none}) (live':=dG H.live ((V*256:Nat):Int) (((V*256:Nat):Int),((m*256:Nat):Int), -1,YM (H.bT.set (H.own t) (cD (H.eO t) H.sp (m:Int) 1).1) ((V*256:Nat):Int))) wi K B.l (by simp[Wd.put]) (LF wi) (λJ y=>by
   rw[EL _ r,Ee (l:=[((V*256:Nat):Int)]) (cl:=-1) aA (λy L=>by
    simp only[zZ]at L;subst L;exact j _ (zZ.2 rfl) _) u]
   unfold gV;rw[hph];simp only[lT];omega) (Go.Vc.iB h.lk) (λQ z=>by
    rcases(F0 r).1 z with z|rfl
    ·exact .inl z
    ·refine .inr ⟨rfl,_,i,rfl,rfl,rfl,?_,?_⟩
     ·simp
     ·exact E) (λs a d=>by cases d) ⟨b.ll,b.lo,b.hb,b.hl,by
    unfold iU;exact P⟩
  refine⟨jK.mk' hg b.hl ?_ e F B,.inr (.inr ?_)⟩
  ·show Z7 (H.eO t) H.sp (m:Int) 1<=1000000;rw[D];simp only at w;omega
  ·rw[e,A];exact⟨rfl,rfl,r,rfl⟩
 ·rw[zA h0]at wi;have D:Z7 (H.eO t) H.sp (m:Int) 1=0:=by
   unfold QG at h0;unfold Z7;split
   ·rename_i d;rw[d,zB rfl]at h0;split at h0
    ·exact(h0 rfl).elim
    ·rename_i hn;cases C:(dA (H.eO t) H.sp (m:Int).toNat (1:Int).toNat 41).1 with
     | none=>rfl
     | some y=>rw[C]at hn;simp at hn
   ·rfl
  have A:Wt H t (.eU m)=({{H.cC (H.own t) (cD (H.eO t) H.sp (m:Int) 1).1 with sp:=(cD (H.eO t) H.sp (m:Int) 1).2}with bR:=H.bR.set t g},none,0,QG (H.eO t) H.sp (m:Int) 1):=by
   have:H.bR.set t g=H.bR:=Qq hg;rw[this];simp only[Wt,h0,zz,Hw.cC]
  have e:=Z6 (H1:={H.cC (H.own t) (cD (H.eO t) H.sp (m:Int) 1).1 with sp:=(cD (H.eO t) H.sp (m:Int) 1).2}) M A;have F:=h.fS hg (g':={g with ph:=none}) (live':=H.live) wi K B.l (by simp[Wd.put]) (λp d _=>.inl d) (λJ y=>by
   unfold gV;rw[hph];simp only[lT]) h.lk (λQ z=>.inl z) (λs a d=>by cases d) ⟨b.ll,b.lo,b.hb,b.hl,by
    unfold iU;exact P⟩
  refine⟨jK.mk' hg b.hl ?_ e F B,.inr (.inl ?_)⟩
  ·show Z7 (H.eO t) H.sp (m:Int) 1<=1000000;rw[D];omega
  ·rw[e,A];exact⟨rfl,h0,rfl,rfl⟩
theorem Wpc {W:Wd}(h:WI W)(hk:W.bT[k]?=some A){j:Nat}{l:List Int}(hl:∀x∈l,∃p∈W.held,pG k (j:Int) x p=true)(hn:l.Nodup)(hj:j<W.tb.length):Q5 A (j:Int) l=0/\WI (W.put k (Zf A (j:Int) l) W.sp (W.held.filter λp=>!eC k (j:Int) l p)):=by
 have ga:=h.ga k A hk;have e:lJ W.held k (j:Int) l=true:=KU.2 ⟨hl,hn⟩;obtain⟨c,w,_,g,_⟩:=ga.cl (k:=j) (by rw[h.tb k A hk];exact hj);have d:Q5 A (j:Int) l=0:=by
  rw[GH ga g];refine M3 ⟨λx s=>?_,hn⟩;obtain⟨p,r,b⟩:=hl x s;obtain⟨m,u,i,y⟩:=KQ.1 b;obtain⟨_,_,_,a,_⟩:=h.cls r u (by rw[m];exact hk);rw[i]at a;exact(KB g).1 a
 refine⟨d,?_⟩;have:=h.toC hk e;rw[zB d,h.BQ e]at this;exact this
theorem NP {xs:List Int}{tb:List bY}{ars0:List AR}(hH:H.tb=tb)(h:WI ⟨tb,s0,H.bT,held⟩)(hk:k<tb.length)(hxs:∀x∈xs,Um held (k:Int) x)(hn:xs.Nodup)(ha:∀p∈held,YM ars0 (p.addr:Int)=(p.k:Int)):∀j,j<=H.bT.length →
 ∃ars',Vq H k (ZY ars0 xs) (List.range j) = {H with bT:=ars'}/\ars'.length=H.bT.length/\WI ⟨tb,s0,ars',held.filter λp=>!(decide (p.k<j)&&(p.cls==(k:Int)&&xs.contains (p.addr:Int)))⟩
 | 0,_=>by
  refine⟨H.bT,rfl,rfl,?_⟩;have:(held.filter λp=>!(decide (p.k<0)&&(p.cls==(k:Int)&&xs.contains (p.addr:Int))))=held:=rp.2 λp _=>by simp
  rw[this];exact h
 | j+1,hj=>by
  obtain⟨ars',e,s,u⟩:=NP hH h hk hxs hn ha j O;rw[VA,e];have w:ars'[j]?=some (ars'[j]' O):=cM _;simp only[w];have EP:∀{p:Pc},p∈held->p.k=j->((p.addr:Int)∈ZY ars0 xs j↔(p.addr:Int)∈xs):=λ{p} b a=>by
   unfold ZY;rw[zF,ha p b,a];simp
  have d:((held.filter λp=>!(decide (p.k<j)&&(p.cls==(k:Int)&&xs.contains (p.addr:Int)))).filter λp=>!eC j (k:Int) (ZY ars0 xs j) p)=held.filter λp=>!(decide (p.k<j+1)&&(p.cls==(k:Int)&&xs.contains (p.addr:Int))):=by
   rw[Ir];apply yE;intro p b;have C:eC j (k:Int) (ZY ars0 xs j) p=(p.k==j&&(p.cls==(k:Int)&&xs.contains (p.addr:Int))):=by
    unfold eC;by_cases a:p.k=j
    ·have:=EP b a;have z:(ZY ars0 xs j).contains (p.addr:Int)=xs.contains (p.addr:Int):=by
      rw[qN,xU,xU];exact this
     rw[z]
    ·have:(p.k==j)=false:=by simpa using a
     rw[this];rfl
   rw[C];have A:decide (p.k<j+1)=(decide (p.k<j)||p.k==j):=by
    rw[qN];simp;omega
   rw[A];cases p.k==j<;>cases decide (p.k<j)<;>cases(p.cls==(k:Int)&&xs.contains (p.addr:Int))<;>rfl
  by_cases b:ZY ars0 xs j=[]
  ·rw[zB b];refine⟨ars',rfl,s,?_⟩;rw[←d,b];have:∀p:Pc,(!eC j (k:Int) [] p)=true:=λp=>by simp[eC]
   rw[rp.2 λp _=>this p];exact u
  ·rw[zA b];refine⟨ars'.set j (Zf (ars'[j]' O) (k:Int) (ZY ars0 xs j)),by simp[Hw.cC],by simp[s],?_⟩;rw[←d];refine(Wpc u w (j:=k) (l:=ZY ars0 xs j) (λx m=>?_) (hn.sublist vU) hk).2;unfold ZY at m;obtain⟨i,g⟩:=zF.1 m;obtain⟨p,b,B,y,r⟩:=hxs x i;have a:p.k=j:=by
    have:=ha p b;rw[r]at this;rw[this]at g;have:(p.k:Int)=(j:Int):=by simpa using g
    omega
   exact⟨p,zF.2 ⟨b,by simp[a]⟩,KQ.2 ⟨a,y,r,B⟩⟩
theorem Wks {tb:List bY}(hH:H.tb=tb)(h:WI ⟨tb,s0,H.bT,held⟩){own:Nat}(hown:own<H.bT.length)(hk:k<tb.length){xs:List Int}(hxs:∀x∈xs,Um held (k:Int) x)(hn:xs.Nodup) :
 ∃ars' held',Gi H own k xs = {H with bT:=ars'}/\ars'.length=H.bT.length/\WI ⟨tb,s0,ars',held'⟩/\(∀c x,Um held' c x↔Um held c x/\¬(c=(k:Int)/\x∈xs))/\∀p∈held',p.dF=false->p∈held:=by
 have u:H.bT[own]?=some H.bT[own]:=cM hown;have y:∀p∈held,YM H.bT (p.addr:Int)=(p.k:Int):=λp a=>h.owner a (zD _) (by have:=(h.size_pos a).1;omega);have all:∃ars' held',Vq H k (ZY H.bT xs) (List.range H.bT.length) = {H with bT:=ars'}/\ars'.length=H.bT.length/\WI ⟨tb,s0,ars',held'⟩/\(∀c x,Um held' c x↔Um held c x/\¬(c=(k:Int)/\x∈xs))/\∀p∈held',p.dF=false->p∈held:=by
  obtain⟨ars',e,s,j⟩:=NP hH h hk hxs hn y H.bT.length (zD _);refine⟨ars',_,e,s,j,λc x=>?_,λp a _=>(zF.1 a).1⟩;constructor
  ·rintro⟨p,a,i,g,d⟩;obtain⟨a,hf⟩:=zF.1 a;refine⟨⟨p,a,i,g,d⟩,?_⟩;rintro⟨rfl,b⟩;obtain⟨B,z,_⟩:=h.hf p a;have m:p.k<H.bT.length:=(cQ.1 z).1;rw[g,d]at hf;simp[m,b]at hf
  ·rintro⟨⟨p,a,i,g,d⟩,hno⟩;refine⟨p,zF.2 ⟨a,?_⟩,i,g,d⟩;rw[g,d];by_cases hc:c=(k:Int)
   ·have:x∉xs:=λb=>hno ⟨hc,b⟩;simp[this]
   ·simp[hc]
 unfold Gi;rw[u];simp only;by_cases hcond:(ZY H.bT xs own).length=xs.length/\Vu H.bT[own] (k:Int) xs=true
 ·rw[zB hcond];have r:∀x∈xs,YM H.bT x=(own:Int):=by
   have i:ZY H.bT xs own=xs:=by
    unfold ZY at hcond ⊢;exact List.filter_sublist.eq_of_length hcond.1
   intro x b;rw[←i]at b;unfold ZY at b;simpa using(zF.1 b).2
  have w:lJ held own (k:Int) xs=true:=KU.2 ⟨λx b=>by
   obtain⟨p,a,i,g,d⟩:=hxs x b;have A:=y p a;rw[d,r x b]at A;exact⟨p,a,KQ.2 ⟨O,g,d,i⟩⟩,hn⟩
  have j:=h.toT u w;rw[zB hcond.2]at j;exact⟨_,_,rfl,by simp[Hw.cC],j,WkC h w,Wjs⟩
 ·rw[zA hcond];have e:(if(ZY H.bT xs own).length=xs.length then H.cC own (Kh H.bT[own] (k:Int) xs)else H)=H:=by
   split
   ·rename_i s;have C:Vu H.bT[own] (k:Int) xs=false:=by
     apply qd.2;intro b;exact hcond ⟨s,b⟩
    have:Kh H.bT[own] (k:Int) xs=H.bT[own]:=by unfold Kh;rw[C];rfl
    rw[this];exact Mp u
   ·rfl
  rw[e];exact all
def p7:Ph->Prop
 | .find _=>True
 | .put _ _=>True
 | .back=>True
 | .dK _ _=>True
 | .drain=>True
 | _=>False
def uw (g:Th):Ph->Nat
 | .find _=>101
 | .put _ _=>100
 | .drain=>100
 | .back=>g.bP.length
 | _=>0
def rD (H:Hw)(t:Nat)(g:Th)(p:Ph):Prop:=(Wt H t p).2.2.1=0 ∧
 ((∃p' g',(Wt H t p).2.1=some p'/\p7 p'/\(∀x,p'≠.find x)/\(Q1 H t p).bR[t]?=some g'/\uw g' p'<uw g p)\/(Wt H t p).2.1=none) ∧
 ((∀x,p≠.find x)->(Wt H t p).2.2.2=0/\(Q1 H t p).live=H.live) ∧
 (∀x,p=.find x->(bW H.live x=none->(Wt H t p).2.1=none/\(Wt H t p).2.2.2≠0/\(Q1 H t p).live=H.live)/\(∀b,bW H.live x=some b->(Wt H t p).2.2.2=0/\(Q1 H t p).live=cR H.live x))
theorem IU (hg:H.bR[t]?=some g):mX H t=if g.bP=[]then none else some .back:=by unfold mX;rw[hg]
theorem WoA (h:HI H held s0)(hg:H.bR[t]?=some g){x:Int}(hph:g.ph=some (.find x)):jK H t (.find x)/\rD H t g (.find x):=by
 have E:=(cQ.1 hg).1;have d:=h.th g (h.mem hg);obtain⟨P,C⟩:g.bP=[]/\iX x:=by have:=d.ph;unfold iU at this;rw[hph]at this;exact this
 have R:∀A∈H.bT,jR A:=λA Q=>by
  obtain⟨j,hj⟩:=zM Q;exact(h.wi.ga j A hj).tU
 cases hm:bW H.live x with
 | none=>
  have z:Wt H t (.find x)=({H with bR:=H.bR.set t g},none,0,pR H x):=by
   have:H.bR.set t g=H.bR:=Qq hg;rw[this];simp only[Wt,Hb,hm]
  have e:=Z6 E z;have D:=h.nR hg (g':={g with ph:=none}) (live':=H.live) (λK x=>by
   unfold gV;rw[hph];simp only[lT]) h.lk (λW J=>.inl J) (λs a N=>by cases N) ⟨d.ll,d.lo,d.hb,d.hl,by
    unfold iU;exact P⟩
  refine⟨jK.mk' hg d.hl ⟨C,λ_=>R,λb hb=>by rw[hm]at hb;cases hb⟩ e D (KS.refl _),?_⟩;unfold rD;rw[e,z];refine⟨rfl,.inr rfl,λi=>(i x rfl).elim,λy m=>?_⟩;cases m;refine⟨λ_=>⟨rfl,?_,rfl⟩,(λb hb=>by rw[hm]at hb;cases hb)⟩;show pR H x≠0;unfold pR
  repeat' split
  all_goals simp
 | some b=>
  have V:=Vk hm;obtain⟨_,p,N,h1,S,Y,h4,X⟩:=h.lv _ V;simp only at S Y h4 X;have U:0<=x:=by omega
  obtain⟨A,Q,hd⟩:=h.wi.hf p N;have Z:yv H t (.find x):=⟨C,(λi=>by rw[hm]at i;cases i),λ_ _=>U⟩;rcases hd with⟨c1,_,r,hr,c2,c3⟩|⟨j,c,c1,c2,c3,_⟩
  ·have G:b.2.2.1 = -1:=by rw[←S,c1]
   have z:Wt H t (.find x)=({{H with live:=cR H.live x}with bR:=H.bR.set t g},some (.dK (x/256) b.2.2.2),0,0):=by
    have:H.bR.set t g=H.bR:=Qq hg;rw[this];simp only[Wt,Hb,hm];rw[zB O]
   have e:=Z6 (H1:={H with live:=cR H.live x}) E z;have u:x/256*256=x:=by omega
   have D:=h.nR hg (g':={g with ph:=some (.dK (x/256) b.2.2.2)}) (live':=cR H.live x) (λK y=>by
    have w:=D5 h.lk hm K y;rw[G]at w;unfold gV;rw[hph];simp only[lT,u];by_cases m:x=y
    ·subst m;rw[Fy]at w;by_cases hk : -1=K
     ·rw[zB hk]at w;rw[zB ⟨hk.symm,rfl⟩];omega
     ·rw[zA hk]at w;rw[zA (λC=>hk C.1.symm)];omega
    ·have:[x].count y=0:=yn.2 aE;rw[this]at w;rw[zA (λC=>m C.2.symm)];split at w<;>omega)
    (Go.Vc.lK h.lk) (λW J=>.inl (EI.1 J).1) (λs a B=>by
     cases B;exact⟨p,N,h1,c1,by rw[u];exact Y,X⟩) ⟨d.ll,d.lo,d.hb,d.hl,by
      unfold iU;exact P⟩
   refine⟨jK.mk' hg d.hl Z e D (KS.refl _),?_⟩;unfold rD;rw[e,z];refine⟨rfl,.inl ⟨_,_,rfl,trivial,(λy m=>by cases m),zO E,by simp[uw]⟩,λi=>(i x rfl).elim,λy m=>?_⟩;cases m;exact⟨(λi=>by rw[hm]at i;cases i),λ_ _=>⟨rfl,rfl⟩⟩
  ·have F:b.2.2.1=(j:Int):=by rw[←S,c1]
   have M:j<H.tb.length:=by
    rw[h.wi.tb _ _ Q]at c2;exact(cQ.1 c2).1
   have z:Wt H t (.find x)=({{H with live:=cR H.live x}with bR:=H.bR.set t {g with bP:=[(j,[x])]}},some (.put j x),0,0):=by
    simp only[Wt,Hb,hm];rw[zA O,F,dE];unfold Q2;rw[ZN (g:=g) (by exact hg),P];rfl
   have e:=Z6 (H1:={H with live:=cR H.live x}) E z;have D:=h.nR hg (g':={g with bP:=[(j,[x])],ph:=some (.put j x)}) (live':=cR H.live x) (λK y=>by
    have w:=D5 h.lk hm K y;rw[F]at w;unfold gV;rw[hph,P];simp only[lT,KO,VV];omega)
    (Go.Vc.lK h.lk) (λW J=>.inl (EI.1 J).1) (λs a B=>by cases B) ⟨d.ll,d.lo,λb' L=>by
     simp only[zZ]at L;subst L;exact⟨M,by simp,by simp⟩,by simp,by
     unfold iU;exact⟨rfl,M⟩⟩
   refine⟨jK.mk' hg d.hl Z e D (KS.refl _),?_⟩;unfold rD;rw[e,z];refine⟨rfl,.inl ⟨_,_,rfl,trivial,(λy m=>by cases m),zO E,by simp[uw]⟩,λi=>(i x rfl).elim,λy m=>?_⟩;cases m;exact⟨(λi=>by rw[hm]at i;cases i),λ_ _=>⟨rfl,rfl⟩⟩
theorem Ja {f:bY->Li->List Int×Li}{tb:List bY}{ls:List Li}{b:Bt}(h:b∈Ko f tb ls):b.1<tb.length/\b.2≠[]/\∃c∈tb,∃l∈ls,b.2=(f c l).1:=by
 unfold Ko at h;obtain⟨k,d,a⟩:=BC.1 h;split at a
 ·rename_i c l hc hl;split at a
  ·cases a
  ·cases a;exact⟨zQ.1 d,by assumption,c,zE hc,l,zE hl,rfl⟩
 ·cases a
theorem Nf {f:bY->Li->List Int×Li}{tb:List bY}{ls:List Li}{l':Li}(h:l'∈Kl f tb ls):∃c∈tb,∃l∈ls,l'=(f c l).2:=by
 unfold Kl at h;obtain⟨i,a⟩:=zM h;rw[FQ]at a;split at a
 ·rename_i c l hc hl;cases a;exact⟨c,zE hc,l,zE hl,rfl⟩
 ·cases a
theorem Nc {f:bY->Li->List Int×Li}{tb:List bY}{ls:List Li}(h:ls.length=tb.length):(Kl f tb ls).length=tb.length:=by
 unfold Kl;rw[List.length_zipWith];omega
theorem Oo (c:bY)(l:Li):(KY c l).2.os.length<=l.os.length/\(KY c l).1.length<=l.os.length:=by
 simp only[KY,gX,zu,zP];omega
theorem I0 (c:bY)(l:Li):(ZZ c l).2.os.length<=l.os.length/\(ZZ c l).1.length<=l.os.length:=by
 simp only[ZZ,gX,zu,zP];omega
theorem Wkv (h:HI H held s0)(hg:H.bR[t]?=some g)(hph:g.ph=some .drain):jK H t .drain/\rD H t g .drain:=by
 have p:=(cQ.1 hg).1;have d:=h.th g (h.mem hg);have J:g.bP=[]:=by have:=d.ph;unfold iU at this;rw[hph]at this;exact this
 have D:=h.qz;have w:=IK ZZ H.tb g.ls;have u:Wt H t .drain=({H with bR:=H.bR.set t {g with ls:=Kl ZZ H.tb g.ls,bP:=Ko ZZ H.tb g.ls}},(if Ko ZZ H.tb g.ls=[]then none else some .back),0,0):=by
  simp only[Wt,ZN hg];rw[IU (g:={g with ls:=Kl ZZ H.tb g.ls,bP:=Ko ZZ H.tb g.ls}) (by simp[p])]
 have e:=Z6 p u;have z:=h.nR hg (g':={ls:=Kl ZZ H.tb g.ls,bP:=Ko ZZ H.tb g.ls,ph:=if Ko ZZ H.tb g.ls=[]then none else some .back}) (live':=H.live) (λr x=>by
  have M:=L6 (f:=ZZ) Wic d.ll r x;unfold gV;rw[hph,J];have:lT (if Ko ZZ H.tb g.ls=[]then none else some Ph.back) r x=0:=by split<;>rfl
  simp only[this,VV];simp only[lT];omega) h.lk (λL F=>.inl F) (λs a m=>by
   simp only at m;split at m<;>cases m) ⟨Nc d.ll,λl hl=>by
   obtain⟨c,_,j,i,rfl⟩:=Nf hl;have:=d.lo j i;have:=I0 c j;exact⟨WiY (d.lo j i).1,O⟩,λb K=>by
   obtain⟨B,C,c,_,j,i,E⟩:=Ja K;have:=d.lo j i;have:=I0 c j;exact⟨B,C,by rw[E];omega⟩,by simp only;omega,by
   unfold iU;by_cases ho:Ko ZZ H.tb g.ls=[]
   ·rw[zB ho];exact ho
   ·rw[zA ho];exact ho⟩
 refine⟨jK.mk' hg d.hl trivial e z (KS.refl _),?_⟩;unfold rD;rw[e,u];refine⟨rfl,?_,λ_=>⟨rfl,rfl⟩,λx G=>by cases G⟩;by_cases ho:Ko ZZ H.tb g.ls=[]
 ·exact .inr (by simp only;rw[zB ho])
 ·exact .inl ⟨.back,_,by simp only;rw[zA ho],trivial,(λy A=>by cases A),zO p,by simp only[uw];omega⟩
theorem Tj (h:HI H held s0)(hg:H.bR[t]?=some g){s a:Int}(hph:g.ph=some (.dK s a)):jK H t (.dK s a)/\rD H t g (.dK s a):=by
 have M:=(cQ.1 hg).1;have b:=h.th g (h.mem hg);have V:g.bP=[]:=by have:=b.ph;unfold iU at this;rw[hph]at this;exact this
 obtain⟨p,C,Y,R,h3,X⟩:=h.gv g (h.mem hg) s a hph;obtain⟨A,m,_⟩:=h.wi.hf p C;have u:H.bT[p.k]?=some A:=m;have P:=(cQ.1 u).1;obtain⟨_,r,G,Z,c3⟩:=h.wi.run C R m;have ga:=h.wi.ga _ _ m;have d:s=(r.1:Int):=by omega
 have S:Ve A s=0:=by
  unfold Ve;rw[zB];unfold uz;rw[Dq];exact⟨r,G,by simp[d]⟩
 have D:lJ held p.k (-1) [s*256]=true:=by rw[d];exact h.wi.q9 m G
 have wi:=h.wi.AK m s;rw[zB S,h.wi.BQ D]at wi;have z:a.toNat=p.k:=by omega
 have K:Wt H t (.dK s a)=({H.cC p.k (QO A s)with bR:=H.bR.set t g},none,0,0):=by
  have:H.bR.set t g=H.bR:=Qq hg;rw[this];simp only[Wt,z,u,Hw.cC]
 have e:=Z6 (H1:=H.cC p.k (QO A s)) M K;have L:=h.fS hg (g':={g with ph:=none}) (live':=H.live) wi h.lW rfl (by simp[Wd.put]) (λq E _=>.inl (zF.1 E).1) (λy x=>by
  have i:=NU (held':=held.filter λF=>!eC p.k (-1) [s*256] F) (l:=[s*256]) (cl:=-1) aA (Wpm D) (WnA h.wi D) y x;have i:nN held y x=nN (held.filter λF=>!eC p.k (-1) [s*256] F) y x+(if -1=y then[s*256].count x else 0):=i
  unfold gV;rw[hph];simp only[lT];by_cases hy:s*256=x
  ·subst hy;rw[Fy]at i;by_cases hk : -1=y
   ·rw[zB hk]at i;rw[zB ⟨hk.symm,rfl⟩];omega
   ·rw[zA hk]at i;rw[zA (λw=>hk w.1.symm)];omega
  ·have:[s*256].count x=0:=yn.2 aE;rw[this]at i;rw[zA (λw=>hy w.2.symm)];split at i<;>omega) h.lk (λW U=>.inl U) (λs a C=>by cases C) ⟨b.ll,b.lo,b.hb,b.hl,by
   unfold iU;exact V⟩
 refine⟨jK.mk' hg b.hl ⟨O,O,λB Q q E=>?_⟩ e L (KS.refl _),?_⟩
 ·obtain⟨j,N⟩:=zM Q;have J:=h.wi.ga j B N;have:=J.fit E;have:=J.pg.n2;omega
 ·unfold rD;rw[e,K];exact⟨rfl,.inr rfl,λ_=>⟨rfl,rfl⟩,λx w=>by cases w⟩
theorem Tv (h:HI H held s0)(hg:H.bR[t]?=some g)(hph:g.ph=some .back):jK H t .back/\rD H t g .back:=by
 have E:=(cQ.1 hg).1;have d:=h.th g (h.mem hg);have U:g.bP≠[]:=by have:=d.ph;unfold iU at this;rw[hph]at this;exact this
 have B:=G0 hg;cases hhd:g.bP with
 | nil=>exact(U hhd).elim
 | cons b r=>
  obtain⟨k,C⟩:=b;obtain⟨J,A,G⟩:=d.hb (k,C) (by rw[hhd];simp);simp only at J A G;have j:∀x,C.count x<=gV g (k:Int) x:=λx=>by
   unfold gV;rw[hhd,KO,zB rfl];simp only;omega
  have i:∀x∈C,Um held (k:Int) x:=λx u=>h.uY (h.mem hg) (zJ (AP.2 u) (j x));have w:C.Nodup:=CR.2 λx=>by
   have P:=j x;have W:=h.qC (h.mem hg) (k:Int) x;have X:=MF held (k:Int) x;omega
  obtain⟨m,D,Q,F,wi,um,sub⟩:=Wks (H:={H with bR:=H.bR.set t {g with bP:=r}}) (tb:=H.tb) rfl h.wi (h.mP t) J i w;have L:Wt H t .back=({{H with bT:=m}with bR:=H.bR.set t {g with bP:=r}},(if r=[]then none else some .back),0,0):=by
   simp only[Wt,B,hhd,ZN hg,Q];rw[IU (g:={g with bP:=r}) (by simp[E])]
  have e:=Z6 (H1:={H with bT:=m}) E L;have M:=h.fS hg (g':={g with bP:=r,ph:=if r=[]then none else some .back}) (live':=H.live) wi h.lW rfl F (λp z R=>.inl (sub p z R)) (λK x=>by
   have P:=NU w i um K x;unfold gV;rw[hph,hhd,KO];have:lT (if r=[]then none else some Ph.back) K x=0:=by split<;>rfl
   simp only[this];simp only[lT];omega) h.lk (λV S=>.inl S) (λs a z=>by
    simp only at z;split at z<;>cases z) ⟨d.ll,d.lo,λb hb=>d.hb b (by rw[hhd];exact mJ _ hb),by have:=d.hl;rw[hhd]at this;simp at this ⊢;omega,by
    unfold iU;by_cases ho:r=[]
    ·rw[zB ho];exact ho
    ·rw[zA ho];exact ho⟩
  refine⟨jK.mk' hg d.hl ⟨k,C,r,by rw[B];exact hhd,λx u=>⟨(h.i63 (i x u)).1,(h.i63 (i x u)).2.2⟩,O⟩ e M (KS.refl _),?_⟩;unfold rD;rw[e,L];refine⟨rfl,?_,λ_=>⟨rfl,rfl⟩,λx u=>by cases u⟩;by_cases ho:r=[]
  ·exact .inr (by simp only;rw[zB ho])
  ·exact .inl ⟨.back,_,by simp only;rw[zA ho],trivial,(λy N=>by cases N),zO E,by simp only[uw];rw[hhd];simp⟩
theorem Wo4 (h:HI H held s0)(hg:H.bR[t]?=some g){x:Int}(hph:g.ph=some (.put k x)):jK H t (.put k x)/\rD H t g (.put k x):=by
 have B:=(cQ.1 hg).1;have r:=h.th g (h.mem hg);obtain⟨L,J⟩:g.bP=[(k,[x])]/\k<H.tb.length:=by have:=r.ph;unfold iU at this;rw[hph]at this;exact this
 obtain⟨c,hc,C⟩:=h.cls J;obtain⟨l,hl,N,F,hlm⟩:=r.li J;have G:=G0 hg;have h40:=h.qz;have aa:=Px (x:=x) C F;have Z:=T1 c x l O;have Q:(dR c x l).1.length<=129/\(dR c x l).2.os.length<=128:=by
  have hlim:=F.lim;have w:(eM [x] l).os=l.os++[x]:=by unfold eM;rw[zA aE]
  have W:(qi c (eM [x] l)).os=l.os++[x]:=by rw[←w];unfold qi;split<;>rfl
  unfold bY.ok at C;unfold dR;rw[zA O];split
  ·rw[w];simp;omega
  ·simp only[gX,W,zP,zu,zK,yd];omega
 obtain⟨V,S⟩:=r.jA (k:=k) aa Q.2;have U:∃hs:List Bt,(if(dR c x l).1=[]then[]else[(k,(dR c x l).1)])=hs:=⟨_,rfl⟩
 obtain⟨i,j⟩:=U;have hs2l:i.length<=1:=by rw[←j];split<;>simp
 have u:∀b∈i,b.1<H.tb.length/\b.2≠[]/\b.2.length<=256:=λb p=>by
  rw[←j]at p;split at p
  ·simp at p
  ·simp only[zZ]at p;subst p;exact⟨J,by assumption,by simp only;omega⟩
 have D:∀d y,pN i d y=if(k:Int)=d then(dR c x l).1.count y else 0:=λd y=>by
  rw[←j];split
  ·rename_i hn;rw[hn,VV];simp
  ·simp only[KO,VV,zt]
 let g3:Th:={g with ls:=g.ls.set k (dR c x l).2,bP:=i}
 let g4:Th:=if H.cf.dD<Qm H.tb g3.ls then{g3 with ls:=Kl KY H.tb g3.ls,bP:=g3.bP++Ko KY H.tb g3.ls}else g3
 have X:iZ H t k x = {H with bR:=H.bR.set t g4}:=by
  have e2:(if(dR c x l).1=[]then H.eA t λh=>h.jA k (dR c x l).2 else Q2 (H.eA t λh=>h.jA k (dR c x l).2) t k (dR c x l).1) = {H with bR:=H.bR.set t {g with ls:=g.ls.set k (dR c x l).2,bP:=(k,[x])::i}}:=by
   rw[←j];split
   ·rw[ZN hg,←L];rfl
   ·rw[ZN hg];unfold Q2;rw[ZN (g:=g.jA k (dR c x l).2) (by simp[B])];simp only[rU,Th.jA,L];rfl
  have e3:({H with bR:=H.bR.set t {g with ls:=g.ls.set k (dR c x l).2,bP:=(k,[x])::i}}:Hw).eA t (λh=>{h with bP:=h.bP.drop 1}) = {H with bR:=H.bR.set t g3}:=by
   rw[ZN (g:={g with ls:=g.ls.set k (dR c x l).2,bP:=(k,[x])::i}) (by simp[B])];simp only[rU,CD,List.drop_zero];rfl
  have z:({H with bR:=H.bR.set t g3}:Hw).bR[t]?=some g3:=by simp[B]
  unfold iZ;simp only[Up hc,G,N,e2,e3,G0 z,ZN z,rU];show(if H.cf.dD<Qm H.tb g3.ls then _ else _)=_
  simp only[g4];split<;>rfl
 have hg4:g4.ph=g.ph:=by simp only[g4];split<;>rfl
 have Y:∀d y,nG g4.ls d y+pN g4.bP d y=nG g.ls d y+pN g.bP d y:=λd y=>by
  have R:=CG hl (dR c x l).2 d y;have h2:=Z y;have h3:nG g3.ls d y+pN g3.bP d y=nG g.ls d y+pN g.bP d y:=by
   simp only[g3];rw[D,L,KO,VV];by_cases hkk:(k:Int)=d
   ·simp only[hkk,zW]at R ⊢;omega
   ·simp only[hkk,zz]at R ⊢;omega
  simp only[g4];split
  ·have h4:=L6 (f:=KY) Wmc (tb:=H.tb) (ls:=g3.ls) V d y;simp only[ND];omega
  ·exact h3
 have m:g4.ls.length=H.tb.length/\(∀l∈g4.ls,fW l/\l.os.length<=128)/\(∀b∈g4.bP,b.1<H.tb.length/\b.2≠[]/\b.2.length<=256)/\g4.bP.length<=41:=by
  have hsl:=IK KY H.tb g3.ls;simp only[g4];split
  ·refine⟨Nc V,λl hl=>?_,λb p=>?_,by simp only[zK,g3]at *;omega⟩
   ·obtain⟨K,M,E,A,rfl⟩:=Nf hl;have h5:=S E A;have:=Oo K E;exact⟨Mm (h.ok K M) h5.1,O⟩
   ·rcases zU.1 p with p|p
    ·exact u b p
    ·obtain⟨b1,b2,K,_,E,A,b3⟩:=Ja p;have h5:=S E A;have:=Oo K E;exact⟨b1,b2,by rw[b3];omega⟩
  ·exact⟨V,S,u,by simp only[g3];omega⟩
 have hs:Wt H t (.put k x)=({H with bR:=H.bR.set t g4},(if g4.bP=[]then none else some .back),0,0):=by
  show(iZ H t k x,mX (iZ H t k x) t,0,0)=_;rw[X,IU (g:=g4) (by simp[B])]
 have e:=Z6 B hs;have hi:=h.nR hg (g':={g4 with ph:=if g4.bP=[]then none else some .back}) (live':=H.live) (λd y=>by
  have R:=Y d y;unfold gV;rw[hph];have:lT (if g4.bP=[]then none else some Ph.back) d y=0:=by split<;>rfl
  simp only[this];simp only[lT];omega) h.lk (λe' he=>.inl he) (λs a P=>by
   simp only at P;split at P<;>cases P) ⟨m.1,m.2.1,m.2.2.1,m.2.2.2,by
   unfold iU;by_cases ho:g4.bP=[]
   ·simp only[ho,zW]
   ·simp only[ho,zz];exact ho⟩
 refine⟨jK.mk' hg r.hl ⟨J,by rw[G,L];simp⟩ e hi (KS.refl _),?_⟩;unfold rD;rw[e,hs];refine⟨rfl,?_,λ_=>⟨rfl,rfl⟩,λx hx=>by cases hx⟩;by_cases ho:g4.bP=[]
 ·exact .inr (by simp only;rw[zB ho])
 ·exact .inl ⟨.back,_,by simp only;rw[zA ho],trivial,(λy hy=>by cases hy),zO B,by simp only[uw];have:=m.2.2.2;omega⟩
end Go.Ar
namespace Go.Ar
open Go Go.Vc Go.Proofs
open Go.Bu (gJ Fo DB)
variable {σ u w w':Hp}{F B P Q:Rg}{L:dQ}{H H':Hw}{t n:Nat}{g:Th}
def yT (size:Int):Int:=(size+255)/256*256
def tx (tb:List bY)(size align:Int):Int×Int:=
 if size<=16384/\K0 size align=true then(match gH tb size align with
  | some k=>((tb.getD k ⟨8,1,1⟩).size:Int)
  | none=>yT size,0)else(0,1)
theorem Rb {a:Int}(h1:1<=a)(h2:a<=256):(bits .and .i64 a (a-1) != 0) = !gJ a:=by
 obtain⟨a,rfl⟩:=zn (show 0<=a by omega);rw[show(a:Int)-1=((a-1:Nat):Int) by omega,Go.Bu.kQ O O,Fo,←DB O O];simp only[bne,Bool.not_inj_iff];rw[qN];simp only[zY];omega
end Go.Ar
namespace Go.Ar
open Go Go.Vc Go.Proofs
variable {σ u w w':Hp}{F B P Q:Rg}{L:dQ}{H H':Hw}{t n:Nat}{g:Th}
theorem LZ {tb:List bY}{size align:Int}{k:Nat}(h:gH tb size align=some k):k<tb.length:=(B9.1 h).1
end Go.Ar
namespace Go.Ar
open Go.Vc (bW dG cR)
variable {H H':Hw}{held:List Pc}{s0:Sp}{t k j:Nat}{g:Th}{A:AR}{c:bY}
theorem KP (f:Th->Th)(hj:j≠t):(H.eA t f).bR[j]?=H.bR[j]? := by
 simp[Hw.eA,xX,Ne.symm hj]
theorem WkL (x:Int)(hj:j≠t):(iZ H t k x).bR[j]?=H.bR[j]? := by
 unfold iZ Q2;simp only;split<;>split<;>simp only[KP _ hj]
theorem OZ (p:Ph)(hj:j≠t):(Wt H t p).1.bR[j]?=H.bR[j]? := by
 cases p with
 | take k=>simp only[Wt];split<;>simp only[VW,KP _ hj]
 | cN k w=>
  simp only[Wt];split
  ·split
   ·unfold Q2;rw[KP _ hj];rfl
   ·rfl
  ·rfl
 | cP k w=>
  simp only[Wt];split
  ·rfl
  ·unfold Q2;rw[KP _ hj];rfl
 | grow k w=>simp only[Wt];split<;>rfl
 | fill=>simp only[Wt];split<;>simp only[VW,KP _ hj]
 | eU m=>simp only[Wt];split<;>rfl
 | find x=>
  simp only[Wt,Hb];split
  ·rfl
  ·split
   ·rfl
   ·unfold Q2;rw[KP _ hj]
 | put k x=>exact WkL x hj
 | back=>
  simp only[Wt];split
  ·rw[F7,KP _ hj]
  ·rfl
 | dK s a=>simp only[Wt];split<;>rfl
 | drain=>simp only[Wt,KP _ hj]
theorem HN (p:Ph)(hj:j≠t):(Q1 H t p).bR[j]?=H.bR[j]? := by
 unfold Q1 eV;rw[KP _ hj,OZ p hj]
def gY (H:Hw)(j:Nat):Option Ph:=(H.bR[j]?).bind (·.ph)
def AX (H H':Hw)(t:Nat):Prop:=gY H' t=none/\∀j,j≠t->gY H' j=gY H j
theorem II (h:HI H held s0)(hg:H.bR[t]?=some g){p:Ph}(hp:g.ph=some p){cl sz:Int}(hr:Rq H.tb g p cl sz):jK H t p/\xN H t p cl sz:=by
 cases p with
 | take k=>exact Woh h hg hp hr
 | cN k w=>exact O6 h hg hp hr
 | cP k w=>exact PW h hg hp hr
 | grow k w=>exact Po h hg hp hr
 | fill=>exact SI h hg hp hr
 | eU m=>exact Χ h hg hp hr
 | find x=>exact hr.elim
 | put k x=>exact hr.elim
 | back=>exact hr.elim
 | dK s a=>exact hr.elim
 | drain=>exact hr.elim
theorem FZ (h:HI H held s0)(hg:H.bR[t]?=some g){p:Ph}(hp:g.ph=some p)(hf:p7 p):jK H t p/\rD H t g p:=by
 cases p with
 | take k=>exact hf.elim
 | cN k w=>exact hf.elim
 | cP k w=>exact hf.elim
 | grow k w=>exact hf.elim
 | fill=>exact hf.elim
 | eU m=>exact hf.elim
 | find x=>exact WoA h hg hp
 | put k x=>exact Wo4 h hg hp
 | back=>exact Tv h hg hp
 | dK s a=>exact Tj h hg hp
 | drain=>exact Wkv h hg hp
theorem CB {p:Ph}(ht:t<H.bR.length):∃g',(Q1 H t p).bR[t]?=some g'/\g'.ph=(Wt H t p).2.1:=Nk ht
theorem LJ {cl sz:Int}:∀(n:Nat) {H:Hw} {held:List Pc} {s0:Sp} {g:Th} {p:Ph},HI H held s0->H.bR[t]?=some g->g.ph=some p->Rq H.tb g p cl sz->tG H t p<=n →
 ∃m H' a e,jN m H t p H' a e/\(∃held s0,HI H' held s0)/\KS H.sp H'.sp/\AX H H' t/\((e≠0/\a=0/\H'.live=H.live)\/(e=0/\bW H.live a=none/\H'.live=dG H.live a (a,sz,cl,YM H'.bT a)))
 | n,H,held,s0,g,p,h,hg,hp,hr,hn=>by
  have ht:=(cQ.1 hg).1;obtain⟨s,C⟩:=II h hg hp hr;have i:(Wt H t p).2.1=none->AX H (Q1 H t p) t:=λD=>by
   obtain⟨G,w,z⟩:=CB (p:=p) ht;exact⟨by unfold gY;rw[w];exact z.trans D,λj u=>by unfold gY;rw[HN p u]⟩
  rcases C with⟨p',G,e1,e2,e3,e4,e5⟩|⟨e1,e2,e3,e4⟩|⟨e1,e2,e3,e4⟩
  ·obtain⟨y,F,E⟩:=s.hi;obtain⟨J,b,mC⟩:=CB (p:=p) ht;rw[e3]at b;cases b;have x:(Q1 H t p).tb=H.tb:=(Gz H t p).1;have B:tG (Q1 H t p) t p'<n:=by omega
   obtain⟨m,H',a,e,r,hi,ks,A,d⟩:=LJ (tG (Q1 H t p) t p') E e3 (mC.trans e1) (by rw[x];exact e4) (zD _);refine⟨m+1,H',a,e,.next s.ok e1 r,hi,s.ks.trans ks,⟨A.1,λj u=>(A.2 j u).trans (by unfold gY;rw[HN p u])⟩,?_⟩;rw[e2]at d;exact d
  ·exact⟨1,_,_,_,.done s.ok e1,s.hi,s.ks,i e1,.inl ⟨e2,e3,e4⟩⟩
  ·exact⟨1,_,_,_,.done s.ok e1,s.hi,s.ks,i e1,.inr ⟨e2,e3,e4⟩⟩
termination_by n=>n
theorem L8:∀(n:Nat) {H:Hw} {held:List Pc} {s0:Sp} {g:Th} {p:Ph},HI H held s0->H.bR[t]?=some g->g.ph=some p->p7 p->uw g p<=n →
 ∃m H' e,jN m H t p H' 0 e/\(∃held s0,HI H' held s0)/\KS H.sp H'.sp/\AX H H' t/\((∀x,p≠.find x)->e=0/\H'.live=H.live) ∧
  (∀x,p=.find x->(bW H.live x=none->e≠0/\H'.live=H.live)/\(∀b,bW H.live x=some b->e=0/\H'.live=cR H.live x))
 | n,H,held,s0,g,p,h,hg,hp,hf,hn=>by
  have ht:=(cQ.1 hg).1;obtain⟨s,P,L,J,a⟩:=FZ h hg hp hf;rcases L with⟨p',B,e1,e2,e3,e4,e5⟩|e1
  ·obtain⟨z,N,M⟩:=s.hi;obtain⟨R,i,mC⟩:=CB (p:=p) ht;rw[e4]at i;cases i;have K:uw B p'<n:=by omega
   obtain⟨m,H',e,r,hi,ks,E,C,_⟩:=L8 (uw B p') M e4 (mC.trans e1) e2 (zD _);obtain⟨F,G⟩:=C e3;refine⟨m+1,H',e,.next s.ok e1 r,hi,s.ks.trans ks,⟨E.1,λj u=>(E.2 j u).trans (by unfold gY;rw[HN p u])⟩,λd=>⟨F,G.trans (J d).2⟩,λx d=>⟨λw=>?_,λb Q=>⟨F,G.trans ((a x d).2 b Q).2⟩⟩⟩;have:=((a x d).1 w).1;rw[e1]at this;cases this
  ·have D:AX H (Q1 H t p) t:=by
    obtain⟨B,y,A⟩:=CB (p:=p) ht;exact⟨by unfold gY;rw[y];exact A.trans e1,λj u=>by unfold gY;rw[HN p u]⟩
   have r:=jN.done (H:=H) (t:=t) s.ok e1;rw[P]at r;exact⟨1,_,_,r,s.hi,s.ks,D,J,λx d=>⟨λw=>((a x d).1 w).2,(a x d).2⟩⟩
termination_by n=>n
structure iY (H H':Hw):Prop where
 hi:∃held s0,HI H' held s0
 ks:KS H.sp H'.sp
 kp:Qd H' H
 ph:∀j,gY H' j=gY H j
theorem iY.refl (h:HI H held s0):iY H H:=⟨⟨held,s0,h⟩,KS.refl _,Qd.refl _,λ_=>rfl⟩
theorem iY.trans {H1 H2 H3:Hw}(a:iY H1 H2)(b:iY H2 H3):iY H1 H3:=⟨b.hi,a.ks.trans b.ks,a.kp.trans b.kp,λj=>(b.ph j).trans (a.ph j)⟩
theorem D6 {tb:List bY}{kind size align addr:Int}{p:Ph}(h:jT tb kind size align addr=some p)(hx:iX addr)(hh:g.bP=[]):iU tb.length {g with ph:=some p}:=by
 unfold jT at h;split at h
 ·split at h
  ·split at h
   ·split at h
    ·rename_i k hk;cases h;exact⟨hh,LZ hk⟩
    ·cases h;exact⟨hh,O,O⟩
   ·cases h
  ·cases h
 ·split at h
  ·cases h;exact⟨hh,hx⟩
  ·split at h
   ·cases h;exact hh
   ·cases h
theorem HI.eV (h:HI H held s0)(hg:H.bR[t]?=some g)(hn:g.ph=none){p:Ph}(hp:iU H.tb.length {g with ph:=some p})(hq:∀s a,p≠.dK s a):HI (eV H t (some p)) held s0:=by
 have b:=h.th g (h.mem hg);have e:Go.Ar.eV H t (some p) = {H with bR:=H.bR.set t {g with ph:=some p}}:=ZN hg _;rw[e];refine h.nR hg (live':=H.live) (λi x=>?_) h.lk (λj d=>.inl d) (λs a hp=>by cases hp;exact(hq s a rfl).elim) ⟨b.ll,b.lo,b.hb,b.hl,hp⟩;unfold gV;rw[hn];have:lT (some p) i x=0:=by
  cases p<;>first|rfl|exact(hq _ _ rfl).elim
 simp only[this];simp only[lT]
theorem Gj (h:HI H held s0)(hg:H.bR[t]?=some g)(hn:g.ph=none):g.bP=[]:=by
 have:=(h.th g (h.mem hg)).ph;unfold iU at this;rw[hn]at this;exact this
theorem UK (H:Hw)(thread kind size align addr:Int):(∃e,KW H thread kind size align addr=.inl e/\e≠0)\/∃(t:Nat) (p:Ph) (g:Th),thread=(t:Int)/\H.bR[t]?=some g/\g.ph=none/\jT H.tb kind size align addr=some p/\KW H thread kind size align addr=.inr (t,p):=by
 unfold KW;split
 ·split
  ·split
   ·split
    ·rename_i hth _ g hg hn _ p hp;exact .inr ⟨thread.toNat,p,g,O,hg,hn,hp,rfl⟩
    ·exact .inl ⟨1,rfl,by decide⟩
   ·exact .inl ⟨5,rfl,by decide⟩
  ·exact .inl ⟨1,rfl,by decide⟩
 ·exact .inl ⟨1,rfl,by decide⟩
theorem Sf (hg:H.bR[t]?=some g)(p:Option Ph)(hj:j≠t):gY (eV H t p) j=gY H j:=by
 unfold gY eV;rw[KP _ hj]
theorem Mc (hg:H.bR[t]?=some g)(hn:g.ph=none){p:Ph}(ps:AX (eV H t (some p)) H' t):∀j,gY H' j=gY H j:=λj=>by
 by_cases hj:j=t
 ·subst hj;rw[ps.1];unfold gY;rw[hg];exact hn.symm
 ·rw[ps.2 j hj,Sf hg _ hj]
def xA (H:Hw)(size align:Int)(H':Hw)(a e:Int):Prop:=(e≠0/\a=0/\H'.live=H.live) ∨
 (e=0/\bW H.live a=none/\(1<=size/\size<=16384/\K0 size align=true)/\∃cl,H'.live=dG H.live a (a,(tx H.tb size align).1,cl,YM H'.bT a)/\((∃k:Nat,cl=k/\gH H.tb size align=some k)\/cl = -1/\gH H.tb size align=none))
theorem Wjh (h:HI H held s0)(thread size align:Int):∃H' a e,Hk H thread 0 size align 0 H' a e/\iY H H'/\xA H size align H' a e:=by
 rcases UK H thread 0 size align 0 with⟨e,hs,hne⟩|⟨t,p,g,rfl,hg,hn,hq,hs⟩
 ·exact⟨H,0,e,.inl ⟨hs,hne,rfl,rfl⟩,iY.refl h,.inl ⟨hne,rfl,rfl⟩⟩
 ·have C:=Gj h hg hn;have i:=D6 (g:=g) hq (by unfold iX;decide) C;unfold jT at hq;rw[zB rfl]at hq;split at hq
  ·rename_i hsz;split at hq
   ·rename_i hok;have b:tx H.tb size align=(match gH H.tb size align with
     | some k=>((H.tb.getD k ⟨8,1,1⟩).size:Int)
     | none=>yT size,0):=by
     unfold tx;rw[zB ⟨hsz.2,hok⟩]
     first|done | (cases gH H.tb size align<;>rfl)
    obtain⟨cl,d,w⟩:∃cl,Rq H.tb {g with ph:=some p} p cl (tx H.tb size align).1/\((∃k:Nat,cl=k/\gH H.tb size align=some k)\/cl = -1/\gH H.tb size align=none):=by
     cases hcv:gH H.tb size align with
     | some k=>
      rw[hcv]at hq b;cases hq;have j:=LZ hcv;have z:H.tb[k]?=some H.tb[k]:=cM j;refine⟨k,⟨rfl,H.tb[k],z,?_⟩,.inl ⟨k,rfl,rfl⟩⟩;rw[b];simp only;rw[zL,z];rfl
     | none=>
      rw[hcv]at hq b;cases hq;refine⟨-1,⟨rfl,?_⟩,.inr ⟨rfl,rfl⟩⟩;rw[b];simp only;unfold yT;omega
    have u:∀s a,p≠.dK s a:=λs a e=>by subst e;exact d.elim
    have E:=h.eV hg hn i u;have y:(Go.Ar.eV H t (some p)).bR[t]?=some {g with ph:=some p}:=by
     have D:=(cQ.1 hg).1;have e:Go.Ar.eV H t (some p) = {H with bR:=H.bR.set t {g with ph:=some p}}:=ZN hg _;rw[e];simp[D]
    obtain⟨m,H',a,e,r,B,ks,A,x⟩:=LJ _ E y rfl d (zD _);refine⟨H',a,e,.inr ⟨t,p,m,hs,r⟩,⟨B,ks,(KZ _ _ _).trans (JC r),Mc hg hn A⟩,?_⟩;rcases x with⟨r1,r2,r3⟩|⟨r1,r2,r3⟩
    ·exact .inl ⟨r1,r2,r3⟩
    ·exact .inr ⟨r1,r2,⟨hsz.1,hsz.2,hok⟩,cl,r3,w⟩
   ·cases hq
  ·cases hq
def xZ (H:Hw)(thread addr:Int)(H':Hw)(e:Int):Prop:=
 (e≠0/\H'=H/\KW H thread 1 0 0 addr=.inl e)\/((∃p,KW H thread 1 0 0 addr=.inr p)/\bW H.live addr=none/\e≠0/\H'.live=H.live)\/((∃p,KW H thread 1 0 0 addr=.inr p)/\∃b,bW H.live addr=some b/\e=0/\H'.live=cR H.live addr)
theorem JW (h:HI H held s0)(hg:H.bR[t]?=some g)(hn:g.ph=none){p:Ph}(hp:iU H.tb.length {g with ph:=some p})(hf:p7 p)(hq:∀s a,p≠.dK s a):∃m H' e,jN m (eV H t (some p)) t p H' 0 e/\iY H H'/\((∀x,p≠.find x)->e=0/\H'.live=H.live) ∧
 (∀x,p=.find x->(bW H.live x=none->e≠0/\H'.live=H.live)/\(∀b,bW H.live x=some b->e=0/\H'.live=cR H.live x)):=by
 have w:=h.eV hg hn hp hq;have d:(Go.Ar.eV H t (some p)).bR[t]?=some {g with ph:=some p}:=by
  have j:=(cQ.1 hg).1;have e:Go.Ar.eV H t (some p) = {H with bR:=H.bR.set t {g with ph:=some p}}:=ZN hg _;rw[e];simp[j]
 obtain⟨m,H',e,r,z,ks,y,i,u⟩:=L8 _ w d rfl hf (zD _);exact⟨m,H',e,r,⟨z,ks,(KZ _ _ _).trans (JC r),Mc hg hn y⟩,i,u⟩
theorem OM (h:HI H held s0)(thread addr:Int)(hx:iX addr):∃H' e,Hk H thread 1 0 0 addr H' 0 e/\iY H H'/\xZ H thread addr H' e:=by
 rcases UK H thread 1 0 0 addr with⟨e,hs,hne⟩|⟨t,p,g,rfl,hg,hn,hq,hs⟩
 ·exact⟨H,e,.inl ⟨hs,hne,rfl,rfl⟩,iY.refl h,.inl ⟨hne,rfl,hs⟩⟩
 ·have d:=D6 (g:=g) hq hx (Gj h hg hn);have j:p=.find addr:=by unfold jT at hq;simp at hq;exact hq.symm
  subst j;obtain⟨m,H',e,r,op,_,i⟩:=JW h hg hn d trivial (λs a e=>by cases e);refine⟨H',e,.inr ⟨t,_,m,hs,r⟩,op,?_⟩;cases hm:bW H.live addr with
  | none=>exact .inr (.inl ⟨⟨_,hs⟩,hm,(i addr rfl).1 hm⟩)
  | some b=>exact .inr (.inr ⟨⟨_,hs⟩,b,hm,(i addr rfl).2 b hm⟩)
theorem WeC (h:HI H held s0)(thread:Int):∃H' e,Hk H thread 2 0 0 0 H' 0 e/\iY H H'/\H'.live=H.live:=by
 rcases UK H thread 2 0 0 0 with⟨e,hs,hne⟩|⟨t,p,g,rfl,hg,hn,hq,hs⟩
 ·exact⟨H,e,.inl ⟨hs,hne,rfl,rfl⟩,iY.refl h,rfl⟩
 ·have b:=D6 (g:=g) hq (by unfold iX;decide) (Gj h hg hn);have i:p=.drain:=by unfold jT at hq;simp at hq;exact hq.symm
  subst i;obtain⟨m,H',e,r,op,d,_⟩:=JW h hg hn b trivial (λs a e=>by cases e);exact⟨H',e,.inr ⟨t,_,m,hs,r⟩,op,(d λx e=>by cases e).2⟩
end Go.Ar
namespace Go.Ar
open Go Go.Vc Go.Proofs
variable {σ u w w':Hp}{F B P Q:Rg}{L:dQ}{H H':Hw}{t n k:Nat}{A:AR}{Y:Lay}
theorem Fr.refl (A:AR):Fr A A:=⟨rfl,rfl,rfl⟩
theorem Fr.trans {A B C:AR}(h:Fr B A)(k:Fr C B):Fr C A:=⟨k.1.trans h.1,k.2.1.trans h.2.1,k.2.2.trans h.2.2⟩
theorem ID {α:Type}(f:AR×Sp->α->AR×Sp)(hf:∀p x,Fr (f p x).1 p.1):∀(l:List α) (p:AR×Sp),Fr (l.foldl f p).1 p.1
 | [],p=>Fr.refl _
 | x::l,p=>(hf p x).trans (ID f hf l (f p x))
theorem M4 (A:AR)(sp:Sp):Fr (eL A sp).1 A:=ID VB (λp x=>⟨rfl,rfl,rfl⟩) _ _
theorem PE (A:AR):Fr (YL A) A:=⟨(VO _ A).1,(VO _ A).2.1,(VO _ A).2.2.1⟩
theorem LV (A:AR)(sp:Sp)(want:Int):Fr (dV A sp want).1 A:=by
 unfold dV;split
 ·exact Fr.refl A
 ·exact(PE A).trans (ID fF (λp x=>⟨rfl,rfl,rfl⟩) _ _)
theorem Pw (h:HH σ F L H)(hk:H.bT[k]?=some A)(hy:L.ys[k]?=some Y){R:aN}
 (hR:∀σ',Ext F σ σ'->HH σ' (Grow F σ) L {H.cC k (eL A H.sp).1 with sp:=(eL A H.sp).2}->R ((yX A:Nat):Int) σ'):Yh.c (aW Y.p) σ R:=by
 obtain⟨Y',G,D,a,_,m,d⟩:=h.oI hk;rw[hy]at a;cases a;refine R6 m λσ' e r=>?_;have i:cF (eL A H.sp).1 Y=cF A Y:=(M4 A H.sp).cF Y;obtain⟨s,j⟩:=d σ' _ _ (Cut G σ) (Cut D σ) (M4 A H.sp).1 e ⟨λb g=>.inl g.1,λb g=>g.1⟩ (by rw[i];exact r);exact hR σ' s j
theorem P9 (h:HH σ F L H)(hk:H.bT[k]?=some A)(hy:L.ys[k]?=some Y)(want:Int)(h12:(VJ (YL A).st).length<=12){R:Int->Int->Hp->Prop}
 (hR:∀σ',Ext F σ σ'->HH σ' (Grow F σ) L {H.cC k (dV A H.sp want).1 with sp:=(dV A H.sp want).2}->R ((mZ A want:Nat):Int) (rz want) σ'):Xn.c (aW Y.p) want σ R:=by
 obtain⟨Y',G,D,a,_,i,b⟩:=h.oI hk;rw[hy]at a;cases a;refine SD i want h12 λσ' G' D' r e j=>?_;have d:cF (dV A H.sp want).1 Y=cF A Y:=(LV A H.sp want).cF Y;obtain⟨m,g⟩:=b σ' _ _ G' D' (LV A H.sp want).1 e r (by rw[d];exact j);exact hR σ' m g
def QQ (H:Hw)(n:Nat):Hw×Nat:=(List.range n).foldl (λ(p:Hw×Nat) k=>match p.1.bT[k]? with
 | some A=>({p.1.cC k (eL A p.1.sp).1 with sp:=(eL A p.1.sp).2},p.2+yX A)
 | none=>p) (H,0)
theorem Ho (n:Nat):QQ H (n+1)=(match (QQ H n).1.bT[n]? with
 | some A=>({(QQ H n).1.cC n (eL A (QQ H n).1.sp).1 with sp:=(eL A (QQ H n).1.sp).2},(QQ H n).2+yX A)
 | none=>QQ H n):=by
 unfold QQ;rw[mD,pY];rfl
theorem We8 (H:Hw)(n:Nat):Qd (QQ H n).1 H:=by
 induction n with
 | zero=>exact Qd.refl H
 | succ n ih=>
  rw[Ho];split
  ·exact ih.trans (Qb _ _ _ _)
  ·exact ih
theorem O2 (h:HH σ F L H)(hb:∀n,n<=H.bT.length->(QQ H n).2<=1000000){R:aN}(hR:∀σ',Ext F σ σ'->HH σ' (Grow F σ) L (QQ H H.bT.length).1->R (((QQ H H.bT.length).2:Nat):Int) σ'):ZB.c (aW L.p) σ R:=by
 refine ZB.o ?_;refine KN h (cG rfl (aG (h.hd.rS rfl ?_)));have J:=h.lL;have N:=h.s.a2;refine KA (a:=bN) (bb:=bN) (λ(x z:Int) w=>∃(j:Nat) (B P:Rg),z=(j:Int)/\x=((QQ H j).2:Int)/\j<=H.bT.length/\HK F σ B w P L (QQ H j).1) (λ_ z _=>H.bT.length-z.toNat) ⟨0,_,_,rfl,rfl,O,HK.start h⟩ ?_;rintro(x:Int) (z:Int) w ⟨j,B,P,rfl,rfl,hj,K⟩;refine cI (λg=>?_) λC=>?_
 ·simp only at g;have r:j<H.bT.length:=by omega
  obtain⟨A,u⟩:∃A,(QQ H j).1.bT[j]?=some A:=⟨_,cM (by rw[(We8 H j).2.2.2];exact r)⟩;obtain⟨Y,D,_,_⟩:=K.h.ar u;have d:=Ho (H:=H) j;rw[u]at d;simp only at d;have Q:=hb (j+1) O;refine K.h.rA D (Pw K.h u D λU G E=>?_);have K1:=K.to G E λb _ hb=>hb;have S:(QQ H (j+1)).2=(QQ H j).2+yX A:=by rw[d]
  have M:(QQ H (j+1)).1 = {(QQ H j).1.cC j (eL A (QQ H j).1.sp).1 with sp:=(eL A (QQ H j).1.sp).2}:=by rw[d]
  rw[←M]at K1;exact cA (m:=(QQ H (j+1)).2) O O (cA (m:=j+1) O O ⟨⟨j+1,_,_,rfl,rfl,O,K1⟩,O⟩)
 ·have y:j=H.bT.length:=by simp only at C;omega
  subst y;exact hR w K.e (K.fin h)
def Uu (H:Hw)(n:Nat):Hw:=(List.range n).foldl (λ(H:Hw) k=>match H.bT[k]? with
 | some A=>H.cC k (Hr A)
 | none=>H) H
theorem Hj (n:Nat):Uu H (n+1)=(match (Uu H n).bT[n]? with
 | some A=>(Uu H n).cC n (Hr A)
 | none=>Uu H n):=by
 unfold Uu;rw[mD,pY];rfl
theorem Ψ (H:Hw)(n:Nat):Qd (Uu H n) H:=by
 induction n with
 | zero=>exact Qd.refl H
 | succ n ih=>
  rw[Hj];split
  ·exact ih.trans (Qb _ _ _ _)
  ·exact ih
theorem PJ (h:HH σ F L H)(hI:∀n A,n<H.bT.length->(Uu H n).bT[n]?=some A->pe A){R:aP}(hR:∀σ',Ext F σ σ'->HH σ' (Grow F σ) L (Uu H H.bT.length)->R σ'):ZA.c (aW L.p) σ R:=by
 refine ZA.o ?_;refine KN h (cG rfl (aG (h.hd.rS rfl ?_)));have W:=h.lL;have Q:=h.s.a2;refine ZV (a:=bN) (λ(z:Int) w=>∃(j:Nat) (B P:Rg),z=(j:Int)/\j<=H.bT.length/\HK F σ B w P L (Uu H j)) (λz _=>H.bT.length-z.toNat) ⟨0,_,_,rfl,O,HK.start h⟩ ?_;rintro(z:Int) w ⟨j,B,P,rfl,hj,K⟩;refine cI (λy=>?_) λD=>?_
 ·simp only at y;have u:j<H.bT.length:=by omega
  obtain⟨A,x⟩:∃A,(Uu H j).bT[j]?=some A:=⟨_,cM (by rw[(Ψ H j).2.2.2];exact u)⟩;obtain⟨Y,E,_,_⟩:=K.h.ar x;have d:=Hj (H:=H) j;rw[x]at d;simp only at d;refine K.h.rA E ?_;obtain⟨G,Z,S,r⟩:=K.h.oS x E;have g:=hI j A u x;refine Tb S g λJ V U=>?_;obtain⟨N,M⟩:=r J (Hr A) (LH _ A g).1 V U;have K1:=K.to N M λb _ X=>X;rw[←d]at K1;exact cA (m:=j+1) O O ⟨⟨j+1,_,_,rfl,O,K1⟩,O⟩
 ·have C:j=H.bT.length:=by simp only at D;omega
  subst C;exact hR w K.e (K.fin h)
def QK (H:Hw)(want:Int)(n:Nat):Hw×Nat:=(List.range n).foldl (λ(p:Hw×Nat) k=>if want<=(p.2:Int)then p else match p.1.bT[k]? with
 | some A=>({p.1.cC k (dV A p.1.sp (want-p.2)).1 with sp:=(dV A p.1.sp (want-p.2)).2},p.2+mZ A (want-p.2))
 | none=>p) (H,0)
theorem UT (want:Int)(n:Nat):QK H want (n+1)=(if want<=((QK H want n).2:Int)then QK H want n else match (QK H want n).1.bT[n]? with
 | some A=>({(QK H want n).1.cC n (dV A (QK H want n).1.sp (want-(QK H want n).2)).1 with sp:=(dV A (QK H want n).1.sp (want-(QK H want n).2)).2},(QK H want n).2+mZ A (want-(QK H want n).2))
 | none=>QK H want n):=by
 unfold QK;rw[mD,pY];rfl
theorem Nm {want:Int}{j:Nat}(h:want<=((QK H want j).2:Int)):∀n,j<=n->QK H want n=QK H want j
 | 0,hn=>by rw[show j=0 by omega]
 | n+1,hn=>by
  by_cases e:j=n+1
  ·rw[e]
  ·have ih:=Nm h n O;rw[UT,ih,zB h]
theorem WgS (H:Hw)(want:Int)(n:Nat):Qd (QK H want n).1 H:=by
 induction n with
 | zero=>exact Qd.refl H
 | succ n ih=>
  rw[UT];split
  ·exact ih
  ·split
   ·exact ih.trans (Qb _ _ _ _)
   ·exact ih
theorem Ξ (h:HH σ F L H)(want:Int)(hw9:want<=9223372036854775807)(h12:∀n A,n<H.bT.length->(QK H want n).1.bT[n]?=some A->(VJ (YL A).st).length<=12)(hb:∀n,n<=H.bT.length->(QK H want n).2<=1000000){R:Int->Int->Hp->Prop}
 (h1:want<0->R 0 1 σ) (hR:0<=want->∀σ',Ext F σ σ'->HH σ' (Grow F σ) L (QK H want H.bT.length).1->R (((QK H want H.bT.length).2:Nat):Int) 0 σ'):YE.c (aW L.p) want σ R:=by
 refine YE.o ?_;refine KN h (cG rfl (cI (λE=>h1 E) λE=>aG (h.hd.rS rfl ?_)));have hR:=hR O;have M:=h.lL;have S:=h.s.a2;refine KA (a:=bN) (bb:=bN) (λ(x z:Int) w=>∃(j:Nat) (B P:Rg),z=(j:Int)/\x=((QK H want j).2:Int)/\j<=H.bT.length/\HK F σ B w P L (QK H want j).1) (λ_ z _=>H.bT.length-z.toNat) ⟨0,_,_,rfl,rfl,O,HK.start h⟩ ?_;rintro(x:Int) (z:Int) w ⟨j,B,P,rfl,rfl,hj,K⟩;refine cI (λu=>?_) λC=>?_
 ·simp only at u;have g:j<H.bT.length:=by omega
  obtain⟨A,r⟩:∃A,(QK H want j).1.bT[j]?=some A:=⟨_,cM (by rw[(WgS H want j).2.2.2];exact g)⟩;obtain⟨Y,G,_,_⟩:=K.h.ar r;have N:=hb j hj;have U:=hb (j+1) O;refine K.h.rA G (cI (λD=>?_) λD=>?_)
  ·rw[Nm O H.bT.length hj]at hR;exact hR w K.e (K.fin h)
  ·have d:=UT (H:=H) want j;rw[zA O,r]at d;simp only at d;refine ar O O (P9 K.h r G _ (h12 j A g r) λW J h1=>?_);have K1:=K.to J h1 λb _ hb=>hb;have V:(QK H want (j+1)).2=(QK H want j).2+mZ A (want-(QK H want j).2):=by rw[d]
   have Q:(QK H want (j+1)).1 = {(QK H want j).1.cC j (dV A (QK H want j).1.sp (want-(QK H want j).2)).1 with sp:=(dV A (QK H want j).1.sp (want-(QK H want j).2)).2}:=by rw[d]
   rw[←Q]at K1;exact cA (m:=(QK H want (j+1)).2) O O (cA (m:=j+1) O O ⟨⟨j+1,_,_,rfl,rfl,O,K1⟩,O⟩)
 ·have y:j=H.bT.length:=by simp only at C;omega
  subst y;exact hR w K.e (K.fin h)
end Go.Ar
namespace Go.Ar
variable {A:AR}
theorem Whh (h:GA A)(hn:A.n<=208)(hlow:∀p,p<16->A.f p=0):(VJ (YL A).st).length<=12:=by
 obtain⟨o,_,_⟩:=UA h;have a:(YL A).st.length=A.n:=by rw[o.ga.pg.len,o.kp.n]
 have g:∀p,p<16->(YL A).f p=0:=λp d=>(o.kp.z p).2 (hlow p d);have i:=h.pg.n1;unfold VJ;rw[a];have e:List.range (A.n/16)=0::(List.range (A.n/16-1)).map Nat.succ:=by
  rw[←y6];congr 1;omega
 rw[e,sA];have b:gD (YL A).st (16*0) (16*0+16) 2=0:=(HB O (by rw[a];omega)).2 λp r j m=>by
  have:=g p O;unfold AR.f at this;omega
 rw[b];have:¬(decide (0<0)=true):=by simp
 rw[zA this];refine zJ (qB _ _) ?_;rw[zX,sH];omega
def vq (tb:List bY)(n room m:Nat):Wd:=⟨tb,VC n,List.replicate m (fD n room tb),[]⟩
theorem Tg {n room:Nat}{tb:List bY}(h1:32<=n)(h2:n<=1024)(h3:n%16=0)(h6:tb.length<=40)(h7:∀c∈tb,c.ok):GA (fD n room tb)/\∀p,(fD n room tb).f p=0:=by
 have i:∀p,(fD n room tb).f p=0:=λp=>by
  show(List.replicate n 0).getD p 0=0;rw[zL,qy];split<;>rfl
 have a:∀{k:Nat} {g:List cH},(List.replicate tb.length ([]:List cH))[k]?=some g->g=[]:=λh=>by
  rw[qy]at h;split at h<;>simp at h;exact h
 have b:∀{k:Nat} {t:fT},(List.replicate tb.length (⟨0,[]⟩:fT))[k]?=some t->t.bs=[]:=λh=>by
  rw[qy]at h;split at h<;>simp at h;rw[←h]
 refine⟨⟨⟨by simp[fD],h1,h2,h3,λp=>by rw[i];omega,λp=>by rw[i];simp[fD],λp=>by rw[i];simp[fD,Go.Bu.jB],λp=>by rw[i,i]⟩,h6,by simp[fD],by simp[fD],λk c g d=>?_,λk c g d s m=>?_,λk c g d p=>?_,λp=>?_,λp=>.inr (Nat.zero_le _),by simp[fD],by simp[fD],λk t j=>?_,λk c g t d j=>?_,λk c t d j=>?_⟩,i⟩
 ·have e:=a d.2;subst e;exact⟨h7 c (zE d.1),by simp,by simp⟩
 ·have e:=a d.2;subst e;simp at m
 ·have e:=a d.2;subst e;constructor
  ·intro h;cases h
  ·rintro⟨s,m,_⟩;simp at m
 ·constructor
  ·intro h;cases h
  ·rintro⟨r,hr,_⟩;simp[fD]at hr
 ·have:=b j;rw[this];exact uE
 ·have:=b j;rw[this];simp
 ·have:=b j;rw[this];simp
theorem Wno {tb:List bY}{n room m:Nat}(h1:32<=n)(h2:n<=1024)(h3:n%16=0)(h6:tb.length<=40)(h7:∀c∈tb,c.ok):WI (vq tb n room m):=by
 obtain⟨x,d⟩:=Tg (room:=room) h1 h2 h3 h6 h7;have get:∀{k:Nat} {A:AR},(vq tb n room m).bT[k]?=some A->A=fD n room tb:=λ{k A} h=>by
  have h:(List.replicate m (fD n room tb))[k]?=some A:=h;rw[qy]at h;split at h<;>simp at h;exact h.symm
 have b:∀p,gf (VC n).st p=0:=λp=>by
  show(List.replicate n 0).getD p 0=0;rw[zL,qy];split<;>rfl
 refine⟨λk A h=>by rw[get h];exact x,λk A h=>?_,λk A h=>by rw[get h];rfl,λk A h p a=>by rw[get h];exact d p,λp a=>(a (b p)).elim,λp k l A B D F h1 h2=>?_,uE,λp a=>by simp[vq]at a,λk A h j y u=>?_,λk A h r w=>?_⟩
 ·rw[get h];exact⟨by simp[vq,VC,fD],λp a=>(a (d p)).elim,λp a=>by rw[d p]at a;omega,λp=>by show gf (VC n).st p<=2;rw[b];omega⟩
 ·rw[get D]at h1;exact(h1 (d p)).elim
 ·rw[get h]at u;obtain⟨c,z,g,C⟩:=u;have e:z=[]:=by
   have h2:=g.2;simp only[fD]at h2;rw[qy]at h2;split at h2<;>simp at h2;exact h2
  subst e;obtain⟨G,s,i,E,_⟩:=(VM (x.cB _ _ _ g)).1 C;simp at E
 ·rw[get h]at w;simp[fD]at w
end Go.Ar
namespace Go.Ar
open Go.Vc (bW dG cR)
variable {H H':Hw}{held:List Pc}{s0:Sp}{t k j:Nat}{g:Th}{A:AR}{c:bY}
theorem Pu {tb:List bY}{cf:Cf}(h1:32<=cf.aF)(h2:cf.aF<=1024)(h3:cf.aF%16=0)(h4:1<=cf.iO)(h6:tb.length<=40)(h7:∀c∈tb,c.ok):HI (Ur tb cf) [] (VC cf.aF):=by
 have A:=Wno (tb:=tb) (n:=cf.aF) (room:=cf.room) (m:=cf.iO) h1 h2 h3 h6 h7;have i:∀g∈(Ur tb cf).bR,g=⟨List.replicate tb.length gT,[],none⟩:=λg d=>(BJ.1 d).2;have r:∀k,(List.replicate tb.length gT).getD k gT=gT:=λk=>by
  rw[zL,qy];split<;>rfl
 refine⟨A,gO.refl _,λk x=>?_,uE,λe y=>by simp[Ur]at y,λg d s a j=>?_,λg d=>?_,h7,?_,?_⟩
 ·have u:∀(n:Nat) (f:Th->Nat) (g:Th),f g=0->((List.replicate n g).map f).sum=0:=λn f g h=>by
   rw[wX,h]
   induction n with
   | zero=>rfl
   | succ n ih=>rw[Bj,zS,ih]
  have w:gV ⟨List.replicate tb.length gT,[],none⟩ k x=0:=by
   unfold gV nG;split
   ·simp only[r];rfl
   ·rfl
  have:tP (Ur tb cf) k x=0:=by
   unfold tP;show pU [] k x+((List.replicate cf.threads (⟨List.replicate tb.length gT,[],none⟩:Th)).map λg=>gV g k x).sum=0;rw[u _ _ _ w];rfl
  rw[this,QM];rintro⟨p,j,_⟩;simp at j
 ·rw[i g d]at j;cases j
 ·rw[i g d];refine⟨by simp[Ur],λl z=>?_,λb B=>by simp at B,by simp,by unfold iU;rfl⟩;rw[(BJ.1 z).2];exact⟨fW.nil,by simp[gT]⟩
 ·show 1<=(List.replicate cf.iO (fD cf.aF cf.room tb)).length;simpa using h4
 ·show(List.replicate cf.aF 0).length=cf.aF;simp
def KL (H H':Hw):Prop:=∀e∈H.live,∀w:Nat,e.1<=((8*w:Nat):Int)->((8*w:Nat):Int)<e.1+e.2.2.1->H'.sp.wd w=H.sp.wd w
theorem HI.BR (h:HI H held s0):WI ⟨H.tb,s0,H.bT,held⟩:=h.wi
theorem HI.mapped (h:HI H held s0){p:Pc}(hp:p∈held){x:Nat}(h1:p.addr<=x)(h2:x<p.addr+p.size):gf H.sp.st (x/256)≠0:=by
 obtain⟨A,a,_⟩:=h.wi.hf p hp;have b:=h.wi.rK hp a h1 h2;have:=(h.wi.ow _ A a).own (x/256) O;intro hz;exact this ((h.lW.z _).1 hz)
theorem HI.kl (h:HI H held s0)(k:KS H.sp H'.sp):KL H H':=λe a w i g=>by
 obtain⟨_,p,d,_,_,j,m,_⟩:=h.lv e a;have b:=h.mapped d (x:=8*w) O O;exact(k.k _ b).2 w O
theorem KL.refl (H:Hw):KL H H:=λ_ _ _ _ _=>rfl
theorem KL.trans {H1 H2 H3:Hw}(a:KL H1 H2)(b:KL H2 H3)(hl:∀e∈H1.live,e∈H2.live):KL H1 H3:=λe d w i g=>(b e (hl e d) w i g).trans (a e d w i g)
structure jC (H H':Hw):Prop where
 hi:∃held s0,HI H' held s0
 live:H'.live=H.live
 bR:H'.bR=H.bR
 kp:Qd H' H
 kl:KL H H'
theorem jC.refl (h:HI H held s0):jC H H:=⟨⟨_,_,h⟩,rfl,rfl,Qd.refl _,KL.refl _⟩
theorem jC.trans {H1 H2 H3:Hw}(a:jC H1 H2)(b:jC H2 H3):jC H1 H3:=⟨b.hi,b.live.trans a.live,b.bR.trans a.bR,a.kp.trans b.kp,a.kl.trans b.kl λe d=>by rw[a.live];exact d⟩
theorem HI.n (h:HI H held s0)(hk:H.bT[k]?=some A):A.n=H.cf.aF:=by
 have:=(h.wi.ow k A hk).l;have b:=h.lW.l;have a:=h.sl;simp only at this;omega
theorem HI.oD (h:HI H held s0)(h208:H.cf.aF<=208)(hk:H.bT[k]?=some A):(VJ (YL A).st).length<=12:=Whh (h.wi.ga k A hk) (by rw[h.n hk];exact h208) (h.wi.low k A hk)
theorem OB (h:HI H held s0)(hk:H.bT[k]?=some A){B:AR}{s0' sp':Sp}(wi:WI ⟨H.tb,s0',H.bT.set k B,held⟩)(hw:∀w,B.f (w/32)=1->sp'.wd w=H.sp.wd w)(hoth:∀w,A.f (w/32)=0->B.f (w/32)=0->sp'.wd w=H.sp.wd w):KL H {H.cC k B with sp:=sp'}:=by
 intro e he w h1 h2;obtain⟨_,p,d,_,_,r,s,_⟩:=h.lv e he;obtain⟨C,i,_⟩:=h.wi.hf p d;obtain⟨D,a,_⟩:=wi.hf p d;have m:=h.wi.rK d i (x:=8*w) O O;have j:=wi.rK d a (x:=8*w) O O;rw[show 8*w/256=w/32 by omega]at m j;have b:=(cQ.1 hk).1;by_cases hpk:p.k=k
 ·have g:(H.bT.set k B)[k]?=some B:=zO b;have a:(H.bT.set k B)[p.k]?=some D:=a;rw[hpk,g]at a;cases a;exact hw w j
 ·refine hoth w ?_ ?_
  ·apply Classical.byContradiction;intro hn;exact hpk (h.wi.one (w/32) p.k k C A i hk O hn)
  ·have g:(H.bT.set k B)[k]?=some B:=zO b;apply Classical.byContradiction;intro hn;exact hpk (wi.one (w/32) p.k k D B a g O hn)
theorem RZ (h:HI H held s0)(hk:H.bT[k]?=some A)(want:Int):jC H {H.cC k (dV A H.sp want).1 with sp:=(dV A H.sp want).2}:=by
 have ga:=h.wi.ga k A hk;obtain⟨j,g,m⟩:=h.lW.dV A want;obtain⟨s,B,C,u⟩:=Wnn ga (h.wi.ow k A hk) want;have wi:=h.wi.kL hk s B u C;rw[show(Wd.mk H.tb s0 H.bT held).sp=s0 from rfl,←j]at wi;have x:=h.xB wi g m (by simp[Wd.put]) (λ_ _=>Iff.rfl) (λp r _=>r);have key:KL H {H.cC k (dV A H.sp want).1 with sp:=(dV A H.sp want).2}:=by
  by_cases h0:want<0
  ·have:dV A H.sp want=(A,H.sp):=by unfold dV;rw[zB h0]
   rw[this];exact λ_ _ _ _ _=>rfl
  ·obtain⟨z,_⟩:=JD ga (h.wi.ow k A hk) (want:=want) O;have d:=UA ga;have a:∀w,¬jG (Uo A want) (w/32)->(dV A H.sp want).2.wd w=H.sp.wd w:=λw e=>by
    rw[g.w,z.wd w e,h.lW.w]
   refine OB h hk wi (λw e=>a w λb=>?_) λw y _=>a w λb=>?_
   ·have:=(z.i _ b).2.1;rw[j]at e;simp only at this;omega
   ·have:=(z.i _ b).1;have:=(d.1.kp.z (w/32)).2 y;omega
 exact⟨⟨_,_,x⟩,rfl,rfl,Qb _ _ _ _,key⟩
theorem SR (h:HI H held s0)(hk:H.bT[k]?=some A):jC H {H.cC k (eL A H.sp).1 with sp:=(eL A H.sp).2}:=by
 have ga:=h.wi.ga k A hk;obtain⟨g,e,i⟩:=h.lW.eL A;have z:=τ ga (h.wi.ow k A hk);have wi:=h.wi.kL hk z.st z.runs (λj y=>by unfold fA Cl;rw[z.st.tb,z.cB]) z.cE;rw[show(Wd.mk H.tb s0 H.bT held).sp=s0 from rfl,←g]at wi;have r:=h.xB wi e i (by simp[Wd.put]) (λ_ _=>Iff.rfl) (λp m _=>m);have a:∀w,w/32/16∉Kt A.st 0->(eL A H.sp).2.wd w=H.sp.wd w:=λw d=>by
  rw[e.w,z.wd w d,h.lW.w]
 have key:KL H {H.cC k (eL A H.sp).1 with sp:=(eL A H.sp).2}:=by
  refine OB h hk wi (λw d=>a w λb=>?_) λw s _=>a w λb=>?_
  ·rw[g,z.f,zB b]at d;omega
  ·have:=((Ny ga).1 b).2 (w/32) rfl;omega
 exact⟨⟨_,_,r⟩,rfl,rfl,Qb _ _ _ _,key⟩
theorem WmL (h:HI H held s0)(hk:H.bT[k]?=some A):jC H (H.cC k (Hr A)):=by
 have wi:=h.wi.tick hk;have b:=h.xB (sp':=H.sp) wi h.lW rfl (by simp[Wd.put]) (Wox _) (λp a _=>(zF.1 a).1);exact⟨⟨_,_,b⟩,rfl,rfl,Qb _ _ _ H.sp,λ_ _ _ _ _=>rfl⟩
theorem Wkf (h:HI H held s0)(n:Nat):jC H (Uu H n):=by
 induction n with
 | zero=>exact jC.refl h
 | succ n ih=>
  rw[Hj];split
  ·rename_i A hA;obtain⟨a,d,b⟩:=ih.hi;exact ih.trans (WmL b hA)
  ·exact ih
theorem Ra (st:List Nat)(k:Nat):(Kt st k).length<=st.length/16:=by
 unfold Kt;exact zJ (qB _ _) aA
theorem Wjz (h:HI H held s0)(n:Nat):jC H (QQ H n).1/\(QQ H n).2<=n*64:=by
 induction n with
 | zero=>exact⟨jC.refl h,zD _⟩
 | succ n a=>
  obtain⟨a,m⟩:=a;rw[Ho];split
  ·rename_i A hA;obtain⟨b,e,d⟩:=a.hi;refine⟨a.trans (SR d hA),?_⟩;have ga:=d.wi.ga n A hA;have i:=Ra A.st 0;have g:=ga.pg.len;have j:=ga.pg.n2;simp only[yX];omega
  ·exact⟨a,O⟩
theorem E0 (st:List Nat)(e:Nat):∀(f p:Nat),(Q7 st e f p).length<=f/\∀r∈Q7 st e f p,r.2<=e-p
 | 0,p=>⟨by simp[Q7],by simp[Q7]⟩
 | f+1,p=>by
  unfold Q7;split
  ·exact⟨by simp,by simp⟩
  ·split
   ·obtain⟨h1,h2⟩:=E0 st e f (p+1);exact⟨O,λr a=>by have:=h2 r a;omega⟩
   ·obtain⟨h1,h2⟩:=E0 st e f (p+gB st p (e-p)+1);refine⟨by simp;omega,λr a=>?_⟩;rcases zR.1 a with rfl|a
    ·have:gB st p (e-p)<=e-p:=by
      unfold gB;refine zJ (List.Sublist.length_le (List.takeWhile_sublist _)) ?_;rw[zP];omega
     exact this
    ·have:=h2 r a;omega
theorem jF {α:Type}(f:α->Nat)(c:Nat):∀l:List α,(∀x∈l,f x<=c)->(l.map f).sum<=l.length*c
 | [],_=>by simp
 | x::l,h=>by
  have h1:=jF f c l λy a=>h y (by simp[a]);have b:=h x aA;rw[zH,zS,zN,zc];omega
theorem WnL (h:GA A)(want:Int):mZ A want<=17408:=by
 unfold mZ;split
 ·omega
 ·have i:=(UA h).1;have w:(YL A).st.length<=1024:=by rw[i.ga.pg.len];exact i.ga.pg.n2
  unfold Uo Ht;have a:=Ea want 0 ((eN (YL A).st).flatMap (Vd (YL A).st));have b:∀x,(Vd (YL A).st x).length<=17/\∀r∈Vd (YL A).st x,r.2<=16:=λx=>by
   have:=E0 (YL A).st (16*x+16) 17 (16*x);exact⟨this.1,λr d=>by have:=this.2 r d;omega⟩
  have g:((eN (YL A).st).flatMap (Vd (YL A).st)).length<=64*17:=by
   rw[List.length_flatMap];refine zJ (jF (λx=>(Vd (YL A).st x).length) 17 _ λx _=>(b x).1) ?_;have p:=(Ol (YL A).st).length_eq;have j:=qB (λh=>decide (0<gD (YL A).st (16*h) (16*h+16) 2)) (List.range ((YL A).st.length/16));rw[sH]at j;have:(eN (YL A).st).length<=64:=by omega
   omega
  have e:∀r∈(eN (YL A).st).flatMap (Vd (YL A).st),r.2<=16:=λr d=>by
   obtain⟨x,_,m⟩:=tv.1 d;exact(b x).2 r m
  have s:=jF (λr:Nat×Nat=>r.2) 16 (gQ want 0 ((eN (YL A).st).flatMap (Vd (YL A).st))) λr d=>e r (a.subset d);have u:=a.length_le;omega
theorem TA (h:HI H held s0)(want:Int)(n:Nat):jC H (QK H want n).1/\(QK H want n).2<=n*17408:=by
 induction n with
 | zero=>exact⟨jC.refl h,zD _⟩
 | succ n a=>
  obtain⟨a,e⟩:=a;rw[UT];split
  ·exact⟨a,zJ e (pf _ (Nat.le_succ n))⟩
  ·split
   ·rename_i A hA;obtain⟨b,g,d⟩:=a.hi;refine⟨a.trans (RZ d hA _),?_⟩;have:=WnL (d.wi.ga n A hA) (want-((QK H want n).2:Int));simp only;omega
   ·exact⟨a,zJ e (pf _ (Nat.le_succ n))⟩
theorem WI.wd {W:Wd}(h:WI W)(f:Nat->Int):WI {W with sp:={W.sp with wd:=f}}:=
 ⟨h.ga,λk A hk=>⟨(h.ow k A hk).l,(h.ow k A hk).own,(h.ow k A hk).cl,(h.ow k A hk).le⟩,h.tb,h.low,h.own,h.one,h.hk,h.hf,h.ht,h.hr⟩
theorem Wj3 {sp:Sp}{x:Int}(h:lR sp x=0):0<=x/\x%8=0/\gf sp.st (x.toNat/256)≠0:=by
 unfold lR at h;split at h
 ·cases h
 ·split at h
  ·cases h
  ·exact⟨O,O,by assumption⟩
theorem Θ (sp:Sp)(x v:Int):(U5 sp x v).st.length=sp.st.length/\(∀p,gf (U5 sp x v).st p=0↔gf sp.st p=0)/\∀w,(U5 sp x v).wd w=if lR sp x=0/\w=x.toNat/8 then v else sp.wd w:=by
 unfold U5;split
 ·rename_i h0;have a:=Wj3 h0;refine⟨by simp[r8],λp=>?_,λw=>?_⟩
  ·show gf (sp.st.set (x.toNat/8/32) 2) p=0↔_;have b:x.toNat/8/32=x.toNat/256:=by omega
   rw[b];unfold gf at a ⊢;rw[zL]at a ⊢;rw[zL,sj];split
   ·rename_i he;split
    ·rw[←he];simp only[sS];exact⟨λh=>O,λh=>(a.2.2 h).elim⟩
    ·rename_i hl;rw[za O]at a;exact(a.2.2 rfl).elim
   ·exact Iff.rfl
  ·show(if w=x.toNat/8 then v else sp.wd w)=_
   by_cases hw:w=x.toNat/8
   ·rw[zB hw,zB ⟨h0,hw⟩]
   ·rw[zA hw,zA λh=>hw h.2]
 ·exact⟨rfl,λ_=>Iff.rfl,λw=>by rw[zA λh=>by have:=h.1;contradiction]⟩
theorem HI.write (h:HI H held s0)(x v:Int):HI {H with sp:=U5 H.sp x v} held {s0 with wd:=(U5 H.sp x v).wd}:=by
 obtain⟨a,b,_⟩:=Θ H.sp x v;exact⟨h.wi.wd _,⟨a.trans h.lW.l,λp=>(b p).trans (h.lW.z p),rfl⟩,h.cn,h.lk,h.lv,h.gv,h.th,h.ok,h.a1,a.trans h.sl⟩
end Go.Ar
namespace Go.Ar
open Go Go.Vc Go.Proofs
variable {σ u w w':Hp}{F B P Q:Rg}{L:dQ}{H H':Hw}{t n:Nat}{g:Th}
end Go.Ar
namespace Go.Proofs
open Go.Vc
set_option maxRecDepth 100000
def WX.h:Hn:=.q .o2 (.q (.q (.cV (.seq [.op,.op,.op,.dB false 2 [.op,.op]])) .aJ) (.q .o1 (.q .o1 (.q (.k (.loop [(4,.one .s),(5,.I)] (.q (.q .o2 (.c .l .l)) (.k (.q .o7 .o6))))) (.q .o6 (.q .o1 (.q (.q .o1 (.k (.loop [(6,.one .s),(7,.I)] (.q (.q .o4 (.c .l .l)) (.q (.k (.q (.cV (.iH true [] [(70,.one .b)] (.tk [0,1,2,3,4,5] (.split 43 (.tk [6,7,8,9,10,11,12,13,14,15,16,17,18,19,20,21,22,23,24,25,26,27,28,29,30,31,32] (.done)) (.tk [6,7,8,9,10,11,12,13,14,15,16,17,18,19] (.split 57 (.tk [20,21,22,23,24,25,26,27,28,29,30,31,32] (.done)) (.tk [20,21,22,23,25,26,27,28,29] (.all [(24,.all [(30,.take 31 (.take 32 (.done)))])])))))))) (.c .o8 .l))) .o3))))) (.q .o3 .l))))))))
theorem WX.o {a:Int}{b:Hp}{c:Sl->Int->Hp->Prop}(d:bZ (λd e=>If d (c ⟨none,0,0⟩ 1 e) (Xb [.s,bN] (λf=>f ⟨none,0,0⟩ 8 e) λg (h:Sl) (i:Int) j=>If (i<512) (Xk.c i a j λk l m n=>aV #[.I k,.I l,.I m] 31 n λo p=>App h 3 24 31 [.I 0,.I 0,.I 0] ⟨some o,1,1⟩ p λq r=>Ya.c i a r λs t=>bL (i+s) λu=>g q u t) (Xk.c 512 a j λv w x y=>aV #[.I v,.I w,.I x] 31 y λz aa=>App h 3 24 31 [.I 0,.I 0,.I 0] ⟨some z,1,1⟩ aa λab ac=>Xb [.s,bN] (λad=>ad ⟨none,0,0⟩ 0 ac) λae (af:Sl) (ag:Int) ah=>If (ag<((ab.len:Nat):Int)) (Jn [.b] (λ(ai:Bool) aj=>If ai (Ix ab.a ab.len ag 3 λak=>aQ ak 0 aj λal=>aQ ak 1 aj λam=>aQ ak 2 aj λan=>aV #[.I al,.I am,.I an] 31 aj λao ap=>App af 3 24 31 [.I 0,.I 0,.I 0] ⟨some ao,1,1⟩ ap λaq ar=>bL (ag+1) λau=>ae aq au ar) (bL (ag+1) λav=>ae af av aj)) λaw=>dT ah λax=>bL (((ab.len:Nat):Int)-1) λay=>If (ag==ay) (aw true ah) (Ix ab.a ab.len ag 3 λaz=>aS ax az 1 λa0=>bL (ag+1) λa1=>Ix ab.a ab.len a1 3 λa2=>aS ax a2 1 λa3=>If (a0 != a3) (aw true ah) (Ix ab.a ab.len ag 3 λa4=>aS ax a4 0 λa5=>aS ax a4 1 λa6=>aS ax a4 2 λa7=>bL (ag+1) λa8=>Ix ab.a ab.len a8 3 λa9=>aS ax a9 0 λba=>aS ax a9 1 λbb=>aS ax a9 2 λbc=>WU.c a5 a6 a7 ah λbd be=>And (ax be) <|
 WU.c ba bb bc be λbf bg=>And (ax bg) <| aw (bd != bf) bg))) (c af 0 ah)))) λbh=>If (a<2) (bh true b) (bh (decide (a>16)) b)):WX.c a b c:=Wa Tryz.func16 (x:=WX.h) (R0 d)
def WU.h:Hn:=.q .o2 (.q .o1 (.q (.k (.loop [(3,.I)] (.q (.q .o9 (.c .l .l)) (.k .o3)))) .aL))
theorem WU.o {a b c:Int}{d:Hp}{e:aN}(f:aV #[.I a,.I b,.I c] 31 d λf g=>Xb [bN] (λh=>h 0 g) λi (j:Int) k=>bL (j+1) λl=>aQ f 0 k λm=>bL (l*m) λn=>aQ f 1 k λo=>bL (o*256) λp=>If (n<=p) (bL (j+1) λq=>i q k) (e j k)):WU.c a b c d e:=Wa Tryz.func18 (x:=WU.h) (R0 f)
def Xk.h:Hn:=.q .o1 (.q .o8 (.q (.q .o1 (.k (.loop [(6,.I)] (.q (.q .o2 (.c .l .l)) (.q (.k (.q (.cV (.seq [.op,.op,.op,.op,.op,.dB true 9 (RI.ops 9)])) (.c .o3 .l))) .o3))))) .aL))
theorem Xk.o {a b:Int}{c:Hp}{d:Int->Int->Int->Hp->Prop}(e:aV #[.I 0,.I 0,.I 0] 31 c λe f=>Nz a<|bL ((512:Int).tdiv a) λg=>aV #[.I 0,.I 0,.I 0] 31 f λh i=>aR h 0 (.I a) i λj=>aR h 1 (.I 4) j λk=>aR h 2 (.I (if 32<(if 2>g then 2 else g)then 32 else(if 2>g then 2 else g))) k λl=>Xb [bN] (λm=>m 4 l) λn (o:Int) p=>If (o≥1) (bL (o*256) λq=>bZ (λr s=>If r (aR h 1 (.I o) s λt=>bL (o-1) λu=>n u t) (bL (o-1) λv=>n v s)) λw=>If (q≥a) (bL (o*256) λx=>Nz a <| bL (b*(x.tmod a)) λy=>bL (o*256) λz=>w (decide (y<=z)) p) (w false p)) (aQ h 0 p λaa=>aQ h 1 p λab=>aQ h 2 p λac=>aR e 0 (.I aa) p λad=>aR e 1 (.I ab) ad λae=>aR e 2 (.I ac) ae λaf=>aQ e 0 af λag=>aQ e 1 af λah=>aQ e 2 af λai=>d ag ah ai af)):Xk.c a b c d:=Wa Tryz.func47 (x:=Xk.h) (R0 e)
def Ya.h:Hn:=.q .o1 (.q .o1 (.q (.k (.loop [(5,.I)] (.q (.q .o6 (.c .l .l)) (.k .o3)))) .aL))
theorem Ya.o {a b:Int}{c:Hp}{d:aN}(e:Xb [bN] (λe=>e 8 c) λf (g:Int) h=>bL (2*g) λi=>Nz b<|bL (a.tdiv b) λj=>If (i<=j) (bL (2*g) λk=>f k h) (d g h)):Ya.c a b c d:=Wa Tryz.func48 (x:=Ya.h) (R0 e)
end Go.Proofs
namespace Go.Ar
open Go Go.Vc Go.Proofs
variable {σ w:Hp}
abbrev T3:=Int×Int×Int
def v3 (x:T3):List Value:=[.int .i64 x.1,.int .i64 x.2.1,.int .i64 x.2.2]
def mH (l:List T3):List Value:=l.flatMap v3
theorem UD (l:List T3):(mH l).length=l.length*3:=by
 induction l with
 | nil=>rfl
 | cons x l ih=>simp only[mH,qb,zK,v3,zN,pz]at *;omega
theorem EY (l:List T3)(x:T3):mH (l++[x])=mH l++v3 x:=by simp[mH]
theorem GK:∀{l:List T3} {i:Nat} {x:T3},l[i]?=some x->∀{d:Nat},d<3->(mH l)[i*3+d]?=(v3 x)[d]?
 | [],_,_,h,_,_=>by simp at h
 | y::l,0,x,h,d,hd=>by
  simp at h;subst h;have e:mH (y::l)=v3 y++mH l:=rfl;rw[e,zh (by simp[v3];omega)];congr 1;omega
 | y::l,i+1,x,h,d,hd=>by
  have e:mH (y::l)=v3 y++mH l:=rfl;have a:(v3 y).length=3:=rfl;rw[e,zp O,a,show(i+1)*3+d-3=i*3+d by omega];exact GK (by simpa using h) hd
theorem JL {Q:Rg}{s:Sl}{l:List T3}(h:Own Q σ s 3 (mH l)):gM σ s l:=by
 have u:=h.1;rw[UD]at u;refine⟨O,λi x y z d=>?_⟩;obtain⟨b,e,g⟩:=h.cell (j:=i*3+0) (v:=.int .i64 x) ((GK d O).trans rfl);obtain⟨m,a,p⟩:=h.cell (j:=i*3+1) (v:=.int .i64 y) ((GK d O).trans rfl);rw[e]at a;cases a;obtain⟨m,a,r⟩:=h.cell (j:=i*3+2) (v:=.int .i64 z) ((GK d O).trans rfl);rw[e]at a;cases a;refine⟨b,0,e,Q4 g,?_,?_,?_⟩
 ·rw[show 0+i*3=i*3+0 by omega];exact g
 ·rw[show 0+i*3+1=i*3+1 by omega];exact p
 ·rw[show 0+i*3+2=i*3+2 by omega];exact r
def wY (s w:Int)(n:Nat):Int:=([4,3,2,1].take n).foldl (λ(r p:Int)=>if s<=p*256/\w*((p*256)%s)<=p*256 then p else r) 4
def CV (s:Int):Int:=min 32 (max 2 (512/s))
def pj (s w:Int):T3:=(s,wY s w 4,CV s)
def Av:Nat->Int->Int->Int
 | 0,d,_=>d
 | n+1,d,q=>if 2*d<=q then Av n (2*d) q else d
def A3 (s w:Int):Int:=Av 8 8 (s/w)
def qD (x:T3):Int:=x.2.1*256/x.1
theorem Wjd (s w:Int)(n:Nat):1<=wY s w n/\wY s w n<=4:=by
 have key:∀(l:List Int) (r:Int),(∀p∈l,1<=p/\p<=4)->1<=r/\r<=4->1<=l.foldl (λ(r p:Int)=>if s<=p*256/\w*((p*256)%s)<=p*256 then p else r) r/\l.foldl (λ(r p:Int)=>if s<=p*256/\w*((p*256)%s)<=p*256 then p else r) r<=4:=by
  intro l
  induction l with
  | nil=>intro r _ h;exact h
  | cons p l ih=>
   intro r hl hr;rw[oE];refine ih _ (λq a=>hl q (mJ _ a)) ?_;split
   ·exact hl p nE
   ·exact hr
 refine key _ _ (λp b=>?_) O;have:=qt b;simp at this;omega
theorem JE (s w:Int)(h1:8<=s)(h2:s<=512)(hw1:2<=w)(hw2:w<=16){R:Int->Int->Int->Hp->Prop}(hR:∀σ',bO σ σ'->R (pj s w).1 (pj s w).2.1 (pj s w).2.2 σ'):Xk.c s w σ R:=by
 refine Xk.o ?_;have X:1<=512/s/\512/s<=64:=⟨by rw[Int.le_ediv_iff_mul_le O];omega,Int.ediv_le_of_le_mul O O⟩;refine nw (cs:=[.int .i64 0,.int .i64 0,.int .i64 0]) λv hz e hb=>nz O (ar (by rw[Yb O];omega) (by rw[Yb O];omega) ?_);rw[Yb O];refine nw (cs:=[.int .i64 0,.int .i64 0,.int .i64 0]) λv1 L K C=>C.s1 aA λv2 o2 A=>A.s1 aA λv3' o3 j=>j.s1 aA λv4 o4 G=>?_;have d:σ.size≠v.size:=by omega
 have D:=Ws o4 (Ws o3 (Ws o2 (K.bV hb id) d) d) d;have Q:bO σ v4:=((((e.trans K).only o2 (.inr O)).only o3 (.inr O)).only o4 (.inr O));have m:(if 32<(if 2>512/s then 2 else 512/s)then 32 else(if 2>512/s then 2 else 512/s))=CV s:=by unfold CV;omega
 rw[m]at G;refine ZV (a:=bN) (λ(z:Int) u=>∃n:Nat,n<=4/\z=4-(n:Int)/\bO σ u/\bX u σ.size [.int .i64 0,.int .i64 0,.int .i64 0]/\bX u v.size [.int .i64 s,.int .i64 (wY s w n),.int .i64 (CV s)]) (λz _=>z.toNat) ⟨0,O,rfl,Q,D,G⟩ ?_;rintro(z:Int) u ⟨n,hn,rfl,eu,hu,bu⟩;refine cI (λS=>?_) λU=>?_
 ·have Y:n<4:=by omega
  have b:wY s w (n+1)=if s<=(4-(n:Int))*256/\w*(((4-(n:Int))*256)%s)<=(4-(n:Int))*256 then 4-(n:Int)else wY s w n:=by
   have W:([4,3,2,1]:List Int)[n]?=some (4-(n:Int)):=by
    rcases(show n=0\/n=1\/n=2\/n=3 by omega)with rfl|rfl|rfl|rfl<;>rfl
   unfold wY;rw[zl,W,pY];rfl
  refine ar O O ?_;refine Ud (λr F=>F=u/\r=decide (s<=(4-(n:Int))*256/\w*(((4-(n:Int))*256)%s)<=(4-(n:Int))*256)) (λr F ⟨E,x⟩=>?_) λJ H=>?_
  ·subst E;by_cases hc:s<=(4-(n:Int))*256/\w*(((4-(n:Int))*256)%s)<=(4-(n:Int))*256
   ·rw[zT hc]at x;rw[zB hc]at b;refine cJ x (bu.s1 aA λV o1 y=>ar O O ⟨⟨n+1,O,O,eu.only o1 (.inr O),Ws o1 hu d,by rw[b];exact y⟩,O⟩)
   ·rw[zg hc]at x;rw[zA hc]at b;exact cG x (ar O O ⟨⟨n+1,O,O,eu,hu,by rw[b];exact bu⟩,O⟩)
  ·have g:=Int.emod_nonneg ((4-(n:Int))*256) (show s≠0 by omega);have M:=Int.emod_lt_of_pos ((4-(n:Int))*256) (show 0<s by omega);have P:w*(((4-(n:Int))*256)%s)<=16*512:=Int.mul_le_mul hw2 O g O;have Z:0<=w*(((4-(n:Int))*256)%s):=Int.mul_nonneg O g;refine cI (λh1=>ar O O (nz O ?_)) λh1=>H _ _ ⟨rfl,(zg λp=>h1 p.1).symm⟩;rw[Kj O];refine ar O O (ar O O (H _ _ ⟨rfl,?_⟩));rw[decide_eq_decide];exact⟨λp=>⟨h1,p⟩,λp=>p.2⟩
 ·have B:n=4:=by omega
  subst B;refine bu.rI rfl (bu.rI rfl (bu.rI rfl (hu.s1 aA λV o1 y=>y.s1 aA λu2 o2 A=>A.s1 aA λN o3 j=>j.rI rfl (j.rI rfl (j.rI rfl (hR N ?_))))));exact((eu.only o1 (.inr O)).only o2 (.inr O)).only o3 (.inr O)
theorem PK (s w:Int)(h1:8<=s)(h2:s<=512)(hw1:2<=w){R:aN}(hR:8<=A3 s w->A3 s w<=256->R (A3 s w) σ):Ya.c s w σ R:=by
 refine Ya.o ?_;have g:0<=s/w/\s/w<=256:=⟨AB O O,by
  have:s/w<=s/2:=by
   apply Int.le_ediv_of_mul_le O;have:=Int.ediv_mul_le s (show w≠0 by omega);have j:s/w*2<=s/w*w:=Int.mul_le_mul_of_nonneg_left hw1 (AB O O);omega
  omega⟩
 refine ZV (a:=bN) (λ(d:Int) u=>u=σ/\∃n:Nat,Av n d (s/w)=A3 s w/\8<=d/\d<=256/\512<=d*2^n) (λd _=>1000-d.toNat) ⟨rfl,8,rfl,O,O,by decide⟩ ?_;rintro(d:Int) u ⟨rfl,n,hst,hd1,hd2,hdn⟩;refine ar O O (nz O (ar (by rw[Yb O];omega) (by rw[Yb O];omega) ?_));rw[Yb O];cases n with
 | zero=>simp at hdn;omega
 | succ n=>
  refine cI (λb=>ar O O ⟨⟨rfl,n,?_,O,O,?_⟩,O⟩) λe=>?_
  ·rw[Av,zB b]at hst;exact hst
  ·rw[Int.pow_succ]at hdn;have:2*d*2^n=d*(2^n*2):=by rw[Int.mul_comm 2 d,Int.mul_assoc,Int.mul_comm 2 (2^n)]
   omega
  ·rw[Av,zA e]at hst;rw[←hst]at hR;exact hR hd1 hd2
theorem NO (x:T3)(h1:8<=x.1)(h2:x.1<=512)(h3:1<=x.2.1)(h4:x.2.1<=4){R:aN}(hR:∀σ',bO σ σ'->R (qD x) σ'):WU.c x.1 x.2.1 x.2.2 σ R:=by
 refine WU.o ?_;refine nw (cs:=[.int .i64 x.1,.int .i64 x.2.1,.int .i64 x.2.2]) λv p e m=>?_;refine ZV (a:=bN) (λ(n:Int) u=>bO σ u/\bX u σ.size [.int .i64 x.1,.int .i64 x.2.1,.int .i64 x.2.2]/\0<=n/\n<=128/\n*x.1<=x.2.1*256) (λn _=>1000-n.toNat) ⟨e,m,O,O,O⟩ ?_;rintro(n:Int) u ⟨eu,bu,hn0,hn1,hn⟩;have s:(n+1)*x.1<=129*512:=Int.mul_le_mul O h2 O O;have g:0<=(n+1)*x.1:=Int.mul_nonneg O O;refine ar O O (bu.rI rfl (ar O O (bu.rI rfl (ar O O ?_))));refine cI (λb=>ar O O ⟨⟨eu,bu,O,?_,b⟩,O⟩) λj=>?_
 ·have:(n+1)*8<=(n+1)*x.1:=Int.mul_le_mul_of_nonneg_left h1 O;omega
 ·have:qD x=n:=by
   unfold qD;have r:n<=x.2.1*256/x.1:=(Int.le_ediv_iff_mul_le O).2 hn;have w:x.2.1*256/x.1<n+1:=(Int.ediv_lt_iff_lt_mul O).2 O;omega
  have d:=hR u eu;rw[this]at d;exact d
def iR:Nat->Int->Int->List T3
 | 0,_,_=>[]
 | n+1,s,w=>if s<512 then pj s w::iR n (s+A3 s w) w else[]
def allM (w:Int):List T3:=iR 64 8 w++[pj 512 w]
def tn (l:List T3)(i:Nat):Bool:=i==l.length-1||(match l[i]?,l[i+1]? with
 | some x,some y=>x.2.1 != y.2.1||qD x != qD y
 | _,_=>false)
def pI (l:List T3)(n:Nat):List T3:=(List.range n).filterMap λi=>if tn l i then l[i]? else none
def vF (w:Int):List T3:=pI (allM w) (allM w).length
def xd (x:T3):Prop:=8<=x.1/\x.1<=512/\1<=x.2.1/\x.2.1<=4
theorem OD (s w:Int)(h1:8<=s)(h2:s<=512):xd (pj s w):=⟨h1,h2,Wjd s w 4⟩
theorem xp {Q:Rg}{s:Sl}{l:List T3}{e1 e2:Nat}(ho:Own Q σ s 3 (mH l))(hQ:∀b,σ.size<=b->Q b)(hl:l.length<=1000)(x:T3){K:Sl->Hp->Prop}(hK:∀s' σ',Ext Q σ σ'->Own Q σ' s' 3 (mH (l++[x]))->K s' σ') :
 Nw (.cells #[.int .i64 x.1,.int .i64 x.2.1,.int .i64 x.2.2] e1 (0,0)) σ λn20 v3=>App s 3 24 e2 [.int .i64 0,.int .i64 0,.int .i64 0] ⟨some n20,1,1⟩ v3 K:=by
 have g:s.len=l.length:=by have:=ho.1;rw[UD]at this;omega
 refine nw (cs:=v3 x) λv p e a=>?_;refine(ho.bK e).app (ys:=v3 x) (λb a=>hQ b O) rfl rfl ?_ (by simp[v3,dP]) ?_ ?_ qW λs' d _ i m _=>hK s' d ?_ ?_
 ·intro j u hu;rw[add_lit,zI,a.cell];exact hu
 ·simp only;have:(s.len+1)*24<=1001*24:=nC O O;omega
 ·simp only;omega
 ·exact(bO.to e).trans (i.sub λb a=>((ho.bK e).kY a).1)
 ·rw[EY];exact m
theorem WlW (w:Int)(h:w<2\/16<w){R:Sl->Int->Hp->Prop}(hR:R ⟨none,0,0⟩ 1 σ):WX.c w σ R:=by
 refine WX.o ?_;exact bZ.intro (cI (λa=>cJ rfl hR) λa=>cJ (zT O) hR)
theorem MM (w:Int)(hw1:2<=w)(hw2:w<=16){R:Sl->Int->Hp->Prop}(hR:∀s' σ',bO σ σ'->gM σ' s' (vF w)->R s' 0 σ'):WX.c w σ R:=by
 refine WX.o ?_;refine bZ.intro (fJ O (cG (zg O) ?_));refine KA (a:=.s) (bb:=bN) (λ(all:Sl) (s:Int) u=>∃(n:Nat) (done:List T3),8<=s/\s<=768/\bO σ u/\Own (λb=>σ.size<=b) u all 3 (mH done)/\done++iR n s w=iR 64 8 w/\512<=s+8*(n:Int)/\(∀x∈done,xd x)/\done.length+n=64) (λ_ s _=>1000-s.toNat) ⟨64,[],O,O,Ext.refl _ _,Own.nil _ _ _,rfl,O,by simp,by simp⟩ ?_;rintro(all:Sl) (s:Int) u ⟨n,done,hs1,hs2,eu,ho,hdone,hn,hok,hlen⟩;refine cI (λS=>?_) λP=>?_
 ·obtain⟨n,rfl⟩:∃m,n=m+1:=⟨n-1,O⟩;refine JE s w O O hw1 hw2 λv2 e2=>?_;refine xp (ho.bK e2) (λb E=>by have:=eu.1;have:=e2.1;omega) O (pj s w) λall1 v4 e4 h4=>?_;have e04:bO σ v4:=Ext.fH (eu.trans e2) e4 λb E=>.inr E;refine PK s w O O hw1 λd1 d2=>ar O O ⟨⟨n,done++[pj s w],O,O,e04,h4,?_,O,λx B=>?_,by simp;omega⟩,O⟩
  ·rw[←hdone,mE]
   congr 1
   conv=>rhs;rw[iR,zB S]
   rfl
  ·rcases zU.1 B with h1|h1
   ·exact hok x h1
   ·rw[zZ]at h1;subst h1;exact OD s w O O
 ·have V:iR n s w=[]:=by
   cases n with
   | zero=>rfl
   | succ n=>rw[iR,zA P]
  rw[V,lZ]at hdone;refine JE 512 w O O hw1 hw2 λv6 e6=>?_;refine xp (ho.bK e6) (λb E=>by have:=eu.1;have:=e6.1;omega) O (pj 512 w) λe v8 e8 J=>?_;have e08:bO σ v8:=Ext.fH (eu.trans e6) e8 λb E=>.inr E;rw[hdone]at J;have A:∀x∈allM w,xd x:=λx B=>by
   rcases zU.1 B with h1|h1
   ·rw[←hdone]at h1;exact hok x h1
   ·rw[zZ]at h1;subst h1;exact OD 512 w O O
  have hml:(allM w).length<=65:=by unfold allM;rw[←hdone];simp;omega
  have J:Own (λb=>σ.size<=b) v8 e 3 (mH (allM w)):=J;generalize hall:allM w=l at J A hml;have hmk:vF w=pI l l.length:=by unfold vF;rw[hall]
  have hl2:e.len=l.length:=by have:=J.1;rw[UD]at this;omega
  refine KA (a:=.s) (bb:=bN) (λ(out:Sl) (z:Int) u=>∃i:Nat,z=(i:Int)/\i<=l.length/\bO v8 u/\Own (λb=>v8.size<=b) u out 3 (mH (pI l i))/\(pI l i).length<=i) (λ_ z _=>l.length-z.toNat) ⟨0,rfl,O,Ext.refl _ _,Own.nil _ _ _,by simp[pI]⟩ ?_;rintro(out:Sl) (z:Int) u ⟨i,rfl,hi,eu8,hout,hol⟩;refine cI (λS=>?_) λP=>?_
  ·have hi':i<l.length:=by omega
   have B:l[i]?=some l[i]:=cM hi';generalize l[i]=x at B;have C:=A x (zE B);have g:pI l (i+1)=pI l i++(if tn l i then[x]else[]):=by
    unfold pI;rw[mD,yJ]
    congr 1
    by_cases hk:tn l i=true
    ·simp[hk,B]
    ·simp[hk]
   have hA:∀m,bO u m->gM m e l:=λm d=>JL (J.bK (eu8.trans d));refine D8 (λr u'=>bO u u'/\r=tn l i) (λr u' ⟨j,Y⟩=>?_) λJ3 G=>?_
   ·have M:=hout.bK j;cases hk:tn l i with
    | true=>
     rw[hk]at Y g;refine cJ Y (Hi (hA u' j) B ?_);refine xp M (λb E=>by have:=eu8.1;have:=j.1;omega) O x λout1 v12 e12 h12=>?_;refine cA (m:=i+1) O O ⟨⟨i+1,rfl,O,Ext.fH (eu8.trans j) e12 λb E=>.inr E,?_,?_⟩,O⟩
     ·rw[g];exact h12
     ·rw[g];simp;omega
    | false=>
     rw[hk]at Y g;refine cG Y (cA (m:=i+1) O O ⟨⟨i+1,rfl,O,eu8.trans j,?_,?_⟩,O⟩)
     ·rw[g];simpa using M
     ·rw[g];simp;omega
   ·refine⟨λm=>bO u m,Ext.refl _ _,ar O O ?_⟩;refine cU (λH=>G _ _ ⟨Ext.refl _ _,?_⟩) λhnl=>?_
    ·have:i=l.length-1:=by simp only[zY]at H;omega
     unfold tn;rw[this];simp
    ·have hi2:i+1<l.length:=by simp only[qA]at hnl;omega
     have X:l[i+1]?=some l[i+1]:=cM hi2;generalize l[i+1]=y at X;have D:=A y (zE X);have W:tn l i=(x.2.1 != y.2.1||qD x != qD y):=by
      unfold tn;rw[B,X];have:(i==l.length-1)=false:=by simp only[qA];omega
      rw[this];rfl
     have Q:=λ(m:Hp) (d:bO u m)=>(hA m d).2 i x.1 x.2.1 x.2.2 B;have hcy:=λ(m:Hp) (d:bO u m)=>(hA m d).2 (i+1) y.1 y.2.1 y.2.2 X;obtain⟨b,o,ha,_,_⟩:=Q u (Ext.refl _ _);have rx:∀m,bO u m->cell m ⟨b,o+i*3,none⟩=some (.int .i64 x.1)/\cell m ⟨b,o+i*3+1,none⟩=some (.int .i64 x.2.1)/\cell m ⟨b,o+i*3+2,none⟩=some (.int .i64 x.2.2):=λm d=>by
      obtain⟨b',o',p,_,h⟩:=Q m d;rw[ha]at p;cases p;exact h
     have Z:∀m,bO u m->cell m ⟨b,o+(i+1)*3,none⟩=some (.int .i64 y.1)/\cell m ⟨b,o+(i+1)*3+1,none⟩=some (.int .i64 y.2.1)/\cell m ⟨b,o+(i+1)*3+2,none⟩=some (.int .i64 y.2.2):=λm d=>by
      obtain⟨b',o',p,_,h⟩:=hcy m d;rw[ha]at p;cases p;exact h
     have U:∀{K:Addr->Prop},K ⟨b,o+i*3,none⟩->Ix e.a e.len (i:Int) 3 K:=λhK=>by
      rw[ha];exact ix O O (by rw[add_lit,dE];exact hK)
     have N:∀{K:Addr->Prop},K ⟨b,o+(i+1)*3,none⟩->Ix e.a e.len ((i+1:Nat):Int) 3 K:=λhK=>by
      rw[ha];exact ix O O (by rw[add_lit,dE];exact hK)
     refine U ⟨x.2.1,λm d=>by rw[add_lit];exact(rx m d).2.1,cA (m:=i+1) O O (N ⟨y.2.1,λm d=>by rw[add_lit];exact(Z m d).2.1,?_⟩)⟩;refine cU (λhp=>G _ _ ⟨Ext.refl _ _,by rw[W,hp];rfl⟩) λhp=>?_;refine U ⟨x.1,λm d=>by rw[add_lit];exact(rx m d).1,⟨x.2.1,λm d=>by rw[add_lit];exact(rx m d).2.1,⟨x.2.2,λm d=>by rw[add_lit];exact(rx m d).2.2,?_⟩⟩⟩;refine cA (m:=i+1) O O (N ⟨y.1,λm d=>by rw[add_lit];exact(Z m d).1,⟨y.2.1,λm d=>by rw[add_lit];exact(Z m d).2.1,⟨y.2.2,λm d=>by rw[add_lit];exact(Z m d).2.2,?_⟩⟩⟩);refine NO x C.1 C.2.1 C.2.2.1 C.2.2.2 λv13 F=>⟨F,NO y D.1 D.2.1 D.2.2.1 D.2.2.2 λv14 L=>⟨F.trans L,G _ _ ⟨F.trans L,by rw[W,hp];rfl⟩⟩⟩
  ·have hil:i=l.length:=by omega
   subst hil;refine hR out u (e08.trans eu8) ?_;rw[hmk];exact JL hout
theorem Gg:∀w:Nat,2<=w->w<=16->Qo (vF (w:Int))=true:=by
 have h:((List.range 17).all λw=>decide (w<2)||Qo (vF (w:Int)))=true:=by decide +kernel
 intro w h1 h2;have:=nD.1 h w (zQ.2 O);simp only[rO,zV]at this;exact this.resolve_left O
end Go.Ar
namespace Go.Proofs
open Go.Shelf
def Tryz.eW:Go.Shelf.Ren:=⟨fun|6=>261|15=>129|14=>284|28=>167|29=>168|20=>303|21=>304|22=>305|23=>306|24=>307|25=>308|26=>309|27=>310|46=>316|47=>206|48=>207|49=>317|50=>318|57=>320|n=>n,fun|22=>124|24=>130|25=>346|3=>3|39=>199|0=>0|53=>255|55=>257|4=>4|46=>248|45=>247|50=>252|5=>5|9=>9|66=>299|70=>105|76=>335|77=>336|n=>n,fun|n=>n⟩
theorem Tryz.tD:Go.Proofs.SlLaysF0.n6 Tryz.prog Tryz.eW:={
 mixed:=by kernel_rfl
 f6:=⟨Tryz.f261.name,by decide,Tryz.func261.trans (congrArg some (by kernel_rfl))⟩
 f14:=⟨Tryz.f284.name,by decide,Tryz.func284.trans (congrArg some (by kernel_rfl))⟩
 f15:=Tryz.func129.trans (congrArg some (by kernel_rfl))
 f20:=⟨Tryz.f303.name,by decide,Tryz.func303.trans (congrArg some (by kernel_rfl))⟩
 f21:=⟨Tryz.f304.name,by decide,Tryz.func304.trans (congrArg some (by kernel_rfl))⟩
 f22:=⟨Tryz.f305.name,by decide,Tryz.func305.trans (congrArg some (by kernel_rfl))⟩
 f23:=⟨Tryz.f306.name,by decide,Tryz.func306.trans (congrArg some (by kernel_rfl))⟩
 f24:=⟨Tryz.f307.name,by decide,Tryz.func307.trans (congrArg some (by kernel_rfl))⟩
 f25:=⟨Tryz.f308.name,by decide,Tryz.func308.trans (congrArg some (by kernel_rfl))⟩
 f26:=⟨Tryz.f309.name,by decide,Tryz.func309.trans (congrArg some (by kernel_rfl))⟩
 f27:=⟨Tryz.f310.name,by decide,Tryz.func310.trans (congrArg some (by kernel_rfl))⟩
 f28:=Tryz.func167.trans (congrArg some (by kernel_rfl))
 f29:=Tryz.func168.trans (congrArg some (by kernel_rfl))
 f46:=⟨Tryz.f316.name,by decide,Tryz.func316.trans (congrArg some (by kernel_rfl))⟩
 f47:=Tryz.func206.trans (congrArg some (by kernel_rfl))
 f48:=Tryz.func207.trans (congrArg some (by kernel_rfl))
 f49:=⟨Tryz.f317.name,by decide,Tryz.func317.trans (congrArg some (by kernel_rfl))⟩
 f50:=⟨Tryz.f318.name,by decide,Tryz.func318.trans (congrArg some (by kernel_rfl))⟩
 f57:=⟨Tryz.f320.name,by decide,Tryz.func320.trans (congrArg some (by kernel_rfl))⟩
 t0:=Tryz.underlying0
 a0:=Tryz.isAgg0
 z0:=Tryz.sizeOf0
 v0:=Tryz.zeroValue0
 t3:=Tryz.underlying3
 a3:=Tryz.isAgg3
 z3:=Tryz.sizeOf3
 v3:=Tryz.zeroValue3
 t4:=Tryz.underlying4
 a4:=Tryz.isAgg4
 z4:=Tryz.sizeOf4
 v4:=Tryz.zeroValue4
 t5:=Tryz.underlying5
 a5:=Tryz.isAgg5
 z5:=Tryz.sizeOf5
 v5:=Tryz.zeroValue5
 t9:=Tryz.underlying9
 a9:=Tryz.isAgg9
 z9:=Tryz.sizeOf9
 v9:=Tryz.zeroValue9
 t22:=Tryz.underlying124
 a22:=Tryz.isAgg124
 z22:=Tryz.sizeOf124
 v22:=Tryz.zeroValue124
 t25:=Tryz.underlying346
 a25:=Tryz.isAgg346
 z25:=Tryz.sizeOf346
 v25:=Tryz.zeroValue346
 t39:=Tryz.underlying199
 a39:=Tryz.isAgg199
 z39:=Tryz.sizeOf199
 v39:=Tryz.zeroValue199
 t45:=Tryz.underlying247
 a45:=Tryz.isAgg247
 z45:=Tryz.sizeOf247
 v45:=Tryz.zeroValue247
 t46:=Tryz.underlying248
 a46:=Tryz.isAgg248
 z46:=Tryz.sizeOf248
 v46:=Tryz.zeroValue248
 t50:=Tryz.underlying252
 a50:=Tryz.isAgg252
 z50:=Tryz.sizeOf252
 v50:=Tryz.zeroValue252
 t53:=Tryz.underlying255
 a53:=Tryz.isAgg255
 z53:=Tryz.sizeOf255
 v53:=Tryz.zeroValue255
 t55:=Tryz.underlying257
 a55:=Tryz.isAgg257
 z55:=Tryz.sizeOf257
 v55:=Tryz.zeroValue257
 t66:=Tryz.underlying299
 a66:=Tryz.isAgg299
 z66:=Tryz.sizeOf299
 v66:=Tryz.zeroValue299
 t70:=Tryz.underlying105
 a70:=Tryz.isAgg105
 z70:=Tryz.sizeOf105
 v70:=Tryz.zeroValue105
 t76:=Tryz.underlying335
 a76:=Tryz.isAgg335
 z76:=Tryz.sizeOf335
 v76:=Tryz.zeroValue335
 t77:=Tryz.underlying336
 a77:=Tryz.isAgg336
 z77:=Tryz.sizeOf336
 v77:=Tryz.zeroValue336}
end Go.Proofs
namespace Go.Ar
open Go Go.Vc Go.Proofs Go.RowKit Go.Sort Go.Shelf Go.Lib
abbrev wW:=Fin 64×Sl
instance:Inhabited wW:=⟨(0,⟨none,0,0⟩)⟩
def nT (x:wW):List Value:=[.int .i64 (x.1.val:Int),.slice x.2.a x.2.len x.2.cap]
def sO (x y:wW):Int:=(x.1.val:Int)-(y.1.val:Int)
theorem EH (x y:wW)(W:World):Calls Tryz.prog 262 #[.agg #[.int .i64 (x.1.val:Int),.slice x.2.a x.2.len x.2.cap],.agg #[.int .i64 (y.1.val:Int),.slice y.2.a y.2.len y.2.cap]] W λe w'=>e=.returned (.int .i64 (sO x y))/\∃q os',w'=grow (W.drewN q) os':=by
 have d:IntKind.i64.wrap ((x.1.val:Int)-(y.1.val:Int))=sO x y:=by
  have g:=x.1.isLt;have b:=y.1.isLt;unfold sO;exact US O O
 go_enter Tryz.func262,Tryz.ntmps262
 go_wp2
 go_ret
 exact⟨rfl,0,_,by rw[alloc_eq_grow,alloc_eq_grow,grow_grow];rfl⟩
theorem EO:SWO (ltOf sO) where
 irrefl x:=by simp[ltOf,sO]
 trans x y z a h2:=by
  have a:=qs a;have h2:=qs h2;unfold sO at a h2;exact zT (by unfold sO;omega)
 ntrans x y z a h2:=by
  have a:=uG a;have h2:=uG h2;unfold sO at a h2;exact zg (by unfold sO;omega)
def x8 (x:wW):Nat×Sl:=(x.1.val,x.2)
theorem Jd (l:List wW)(j:Nat)(hj:j<l.length*2):(fN (l.map x8))[j]?=some (flatK nT 2 l.toArray)[j]! := by
 rw[get_flatK _ _ _ _ (by simpa using hj)];have a:j/2<l.length:=by omega
 have e:l.toArray[j/2]! = l[j/2]:=by rw[getElem!_pos _ _ (by simpa using a)];simp
 have b:(l.map x8)[j/2]?=some (x8 l[j/2]):=by simp[a]
 have:=Wli b (d:=j%2) O;rw[show 2*(j/2)+j%2=j by omega]at this;rw[this,e];have hd:j%2=0\/j%2=1:=by omega
 rcases hd with h|h<;>rw[h]<;>rfl
theorem D0:Gw:=by
 intro σ F s xs hrow hk hlen R hR;rintro w rfl;have Z:s.len=xs.length:=by have:=hrow.1;rw[KR]at this;omega
 rcases hrow.2 with⟨h0,hc0⟩|⟨b,cs,hF,ha,hb,hle,hcl,ht⟩
 ·have J:xs=[]:=BK.1 O;have:=AnyF.slices_SortFunc_none Tryz.tD s.a s.cap (.func (.func 262) #[] #[]) w;show Calls _ _ #[.slice s.a s.len s.cap,.func (.func 262) #[] #[]] w _;rw[h0];refine this.mono ?_;rintro e X ⟨rfl,rfl⟩;subst J;exact⟨.refl _,[],rfl,hR [] _ (.refl _) List.Pairwise.nil (Ext.refl _ _) hrow⟩
 ·have E:∀x∈xs,x.1<64:=hk
  let toK:Nat×Sl->wW:=λx=>(Fin.ofNat 64 x.1,x.2)
  have u:(xs.map toK).map x8=xs:=by
   rw[zk]
   conv=>rhs;rw[←AZ xs]
   apply ze;intro x hx;simp only[Function.comp,toK,x8,Fin.ofNat,id];rw[yG (E x hx)]
  have M:(xs.map toK).length=xs.length:=by simp
  generalize xs.map toK=l at u M;have z:=hb.lt;have hH:HoldsK nT 2 w b 0 l.toArray:=by
   intro j hj;simp only[size_flatK,CA]at hj;have V:Vc.cell w.heap ⟨b,0+j,none⟩=some (flatK nT 2 l.toArray)[j]! := by
    rw[hb.cell,zI,←Jd l j hj,u];rw[←ht,zb,zB (by rw[KR];omega)]
   exact⟨V,hb.sG⟩
  have eg:∀args w,(callFunc 262 args).run Tryz.prog w=.ok (.enter 262 args) w:=enters_of Tryz.func262 (by kernel_rfl) rfl;have B:∀w,(isAgg (Tryz.eW.t 24)).run Tryz.prog w=.ok true w:=λw=>by
   have h:=KX (P:=Tryz.prog) (t:=Tryz.eW.t 24) (d:=(Tryz.prog.underlying (Tryz.eW.t 24)).getD .bool) (by kernel_rfl) w
   rwa [show UL ((Tryz.prog.underlying (Tryz.eW.t 24)).getD .bool)=true by kernel_rfl]at h
  have G:∀w,(Go.sizeOf (Tryz.eW.t 24)).run Tryz.prog w=.ok 2 w:=λw=>by
   have h:=Q3 (P:=Tryz.prog) (t:=Tryz.eW.t 24) (by kernel_rfl) w
   rwa [show Tryz.prog.cellsOf (Tryz.eW.t 24)=2 by kernel_rfl]at h
  have C:=AnyQ.slices_SortFunc Tryz.tD 2 B G nT (λ_=>rfl) (λx v S=>by simp only[nT,zR,List.not_mem_nil,or_false]at S;rcases S with rfl|rfl<;>rfl) sO EO 262 #[] b 0 s.cap l.toArray w eg (λ_ _ _ _ x y=>EH x y _) hH z (by simp only[CA];omega)
  show Calls _ _ #[.slice s.a s.len s.cap,.func (.func 262) #[] #[]] w _;rw[ha,show s.len=l.toArray.size by simp only[CA];omega];refine C.mono ?_;rintro e X ⟨rfl,d',n,os,Q,N,rfl⟩;have g:d'.size=l.length:=by simpa using Q.1
  have r:d'.toList.Perm l:=by
   have L:=Q.2.2;rw[show l.toArray.size=d'.size by simp[g]]at L;have Y:(d'.extract 0 d'.size)=d':=by simp
   have e2:(l.toArray.extract 0 d'.size)=l.toArray:=by rw[g];simp
   rw[Y,e2]at L;simpa using L
  obtain⟨U,H⟩:=hb;have m:(sortWorldK nT 2 w b 0 n d' os).heap=(w.heap.modify b (onCells (putCells id 0 (flatK nT 2 d'))))++os:=rfl;have p:(w.heap.modify b (onCells (putCells id 0 (flatK nT 2 d')))).size=w.heap.size:=by simp
  refine⟨⟨rfl,rfl,rfl,by rw[m,Array.size_append,p];omega⟩,[],rfl,?_⟩;rw[m];have A:Ext F w.heap ((w.heap.modify b (onCells (putCells id 0 (flatK nT 2 d'))))++os):=by
   refine⟨by rw[Array.size_append,p];omega,λq W hf=>?_⟩;rw[IV (by rw[p];exact W),Db,zA λ(e:b=q)=>hf (by rw[←e];exact hF)]
  refine hR (d'.toList.map x8) _ ?_ ?_ A ⟨?_,.inr ⟨b,(putCells id 0 (flatK nT 2 d') cs.toArray).toList,hF,ha,⟨U,?_⟩,hle,?_,?_⟩⟩
  ·rw[←u];exact r.map _
  ·rw[py];rw[nB];intro i j hi hj hij;have D:=N i j O hij (by simp only[Bx]at hj;simp only[CA];omega);rw[getElem!_pos d' i (by simpa using hi),getElem!_pos d' j (by simpa using hj)]at D;have D:=uG D;unfold sO at D;simp only[x8,Array.getElem_toList];omega
  ·rw[KR,zX,Bx,g];omega
  ·rw[IV (by rw[p];exact z),Db,zB rfl,H];simp[onCells]
  ·simp[putCells,hcl]
  ·rw[KR,zX,Bx,g];apply lX;intro j;rw[zb];by_cases hj:j<l.length*2
   ·rw[zB hj,Jd d'.toList j (by simpa[g]using hj)];have K:j<cs.length:=by
     have:l.length*2<=s.cap*2:=pf _ O;omega
    simp only[putCells,CE,Array.getElem?_mapIdx,List.getElem?_toArray,cM K,zj];rw[zB ⟨O,by rw[size_flatK,g];omega⟩];simp
   ·rw[zA hj,za (by rw[KR,zX,Bx,g];omega)]
end Go.Ar
namespace Go.Proofs
open Go.Vc
set_option maxRecDepth 100000
def XH.h:Hn:=.q .o1 (.q .o4 .l)
theorem XH.o {a:Hp}{b:Option Addr->Hp->Prop}(c:Wu.c 8 64 1 1 1024 2 a λc d=>b c d):XH.c a b:=Wa Tryz.func29 (x:=XH.h) (R0 c)
def X1.h:Hn:=.q .o1 (.q .o5 .l)
theorem X1.o {a:Sl}{b:Int}{c:Hp}{d:aO}(e:d (decide (((a.len:Nat):Int)>b)) c):X1.c a b c d:=Wa Tryz.func34 (x:=X1.h) (R0 e)
def Wu.h:Hn:=.q .o2 (.q .o8 (.q .o9 (.q (.q .o2 .aK) .aL)))
theorem Wu.o {a b c d e f:Int}{g:Hp}{h:Option Addr->Hp->Prop}(i:aV #[.I a,.I b,.I c,.I d,.I e,.I f] 65 g λi j=>aQ i 0 j λk=>WX.c k j λl m n=>bM ((i.add 1).add 0) n λo=>bM ((i.add 1).add 1) n λp=>bM ((i.add 1).add 2) n λq=>bM ((i.add 1).add 3) n λr=>bM ((i.add 1).add 4) n λs=>KM.c l o p q r s n λt u v=>If (u != 0) (h none v) (h t v)):Wu.c a b c d e f g h:=Wa Tryz.func63 (x:=Wu.h) (R0 i)
def WS.h:Hn:=.q .o2 (.q .o5 .l)
theorem WS.o {a b c d e f:Int}{g:Hp}{h:aO}(i:aV #[.I a,.I b,.I c,.I d,.I e,.I f] 65 g λi j=>bM ((i.add 1).add 0) j λk=>h (decide (k>128)) j):WS.c a b c d e f g h:=Wa Tryz.func64 (x:=WS.h) (R0 i)
def Yl.h:Hn:=.q .o2 (.q (.q (.cV (.seq [.op,.op,.op,.op,.dB false 3 (RI.ops 3)])) (.c (.q .o3 .l) .l)) (.q (.oq 12) .l))
theorem Yl.o {a:Sl}{b c d e f g h:Int}{i:ByteArray}{j:Hp}{k:aN}(l:aV #[.I b,.I c,.I d,.I e,.I f,.I g,.I h,.string i] 87 j λl m=>aQ l 4 m λn=>bZ (λo p=>If o (aQ l 5 p λq=>k q p) (aQ l 4 p λr=>Nz ((a.len:Nat):Int) <| Ix a.a a.len (r.tmod ((a.len:Nat):Int)) 1 λs=>bM s p λt=>aQ l 5 p λu=>bL (t+u) λv=>k v p)) λw=>If (n<0) (w true m) (w (((a.len:Nat):Int)==0) m)):Yl.c a b c d e f g h i j k:=Wa Tryz.func69 (x:=Yl.h) (R0 l)
def Zd.h:Hn:=.q .o4 (.q .o4 (.q (.q .o2 (.k (.q .o2 (.c (.q (.o 13) (.q .o6 .l)) (.q .o2 (.c (.q .o8 .l) (.q .o2 (.c (.q .o7 .l) (.q .o2 (.c (.q .o8 .l) (.q .o2 (.c (.q .o8 (.q .o5 .l)) (.q .o2 (.c (.q (.o 12) .l) (.q .o2 (.c (.q .o9 .l) (.q .o2 (.c (.q (.o 12) (.q (.q (.cV (.seq [.op,.op,.op,.dB false 2 [.op,.op]])) (.c (.q .o4 .l) .l)) (.q (.oq 10) .l))) (.q .o2 (.c (.q .o9 (.q .o5 .l)) (.q .o2 (.c (.q .o5 .l) (.q .o2 (.c .o2 .l)))))))))))))))))))))))) (.q .o3 .l)))
theorem Zd.o {a:R2}{b:Sl}{c d e f g h i:Int}{j:ByteArray}{k:Hp}{l:Int->Int->Int->Hp->Prop}(m:aV #[.I c,.I d,.I e,.I f,.I g,.I h,.I i,.string j] 87 k λm n=>aQ m 0 n λo=>aQ m 1 n λp=>aQ m 2 n λq=>aQ m 3 n λr=>aQ m 4 n λs=>aQ m 5 n λt=>aQ m 6 n λu=>bC m 7 n λv=>Yl.c b o p q r s t u v n λw x=>aQ m 0 x λy=>If (y==0) (aQ m 1 x λz=>aQ m 2 x λaa=>aQ m 3 x λab=>Yn.c a z aa ab x λac ad ae=>l ac ad ac ae) (If (y==1) (aQ m 1 x λaf=>Zo.c a af w x λag ah=>l 0 ag 0 ah) (If (y==2) (aQ m 1 x λai=>Zt.c a ai x λaj ak=>l 0 aj 0 ak) (If (y==3) (aQ m 6 x λal=>Zr.c a w al x λam an=>l 0 am 0 an) (If (y==4) (Tr.c a w x λao ap aq=>l ao ap 0 aq) (If (y==5) (aQ m 1 x λar=>aQ m 2 x λau=>aQ m 3 x λav=>Yr.c a ar 0 au av 0 x λaw ax=>l 0 aw 0 ax) (If (y==6) (aQ m 1 x λay=>Yr.c a ay 1 0 0 w x λaz a0=>l 0 az 0 a0) (If (y==7) (aQ m 1 x λa1=>Y8.c a a1 x λa2 a3 a4 a5 a6=>aV #[.I 0,.I 0] 156 a6 λa7 a8=>aR a7 0 (.I a3) a8 λa9=>aR a7 1 (.I a4) a9 λba=>bZ (λbb bc=>If bb (l 0 a5 0 bc) (aQ a7 0 bc λbd=>aQ a7 1 bc λbe=>bL (100+be) λbf=>aQ a7 0 bc λbg=>l bd bf bg bc)) λbh=>If (a5 != 0) (bh true ba) (bh (!a2) ba)) (If (y==8) (aQ m 2 x λbi=>
 YE.c a bi x λbj bk bl=>l bj bk 0 bl) (If (y==9) (ZB.c a x λbm bn=>l bm 0 0 bn) (If (y==10) (ZA.c a x λbo=>l 0 0 0 bo) (l 0 0 0 x)))))))))))):Zd.c a b c d e f g h i j k l:=Wa Tryz.func70 (x:=Zd.h) (R0 m)
end Go.Proofs
namespace Go.Ar
open Go Go.Vc Go.Proofs
variable {σ w w':Hp}{F P Q:Rg}{L:dQ}{H H':Hw}{held:List Pc}{s0:Sp}{t n:Nat}{g:Th}
structure fG where
 kd:Int
 th:Int
 a:Int
 b:Int
 of:Int
 pl:Int
 va:Int
 s:ByteArray
def uC (d:fG):List Value:=[.int .i64 d.kd,.int .i64 d.th,.int .i64 d.a,.int .i64 d.b,.int .i64 d.of,.int .i64 d.pl,.int .i64 d.va,.string d.s]
def pa (x:Int):Prop:=-9223372036854775808<=x/\x<=9223372036854775807
structure nY (d:fG):Prop where
 a:pa d.a
 b:pa d.b
 pl:pa d.pl
 va:pa d.va
structure jQ (σ:Hp) (sl:Sl) (ds:List fG):Prop where
 len:sl.len=ds.length
 at_:∀(i:Nat) (d:fG),ds[i]?=some d->∃b o,sl.a=some ⟨b,o,none⟩/\b<σ.size/\∀(j:Nat) v,(uC d)[j]?=some v->cell σ ⟨b,o+i*8+j,none⟩=some v
 i:∀d∈ds,nY d
 C2:ds.length<=9223372036854775807
theorem jQ.bK {sl:Sl}{ds:List fG}(h:jQ σ sl ds)(e:bO σ w):jQ w sl ds:=⟨h.len,λi d g=>by
 obtain⟨b,o,r,m,a⟩:=h.at_ i d g;exact⟨b,o,r,by have:=e.1;omega,λj v p=>by rw[Q0 e m id];exact a j v p⟩,h.i,h.C2⟩
theorem jQ.rd {sl:Sl}{ds:List fG}(h:jQ σ sl ds)(e:bO σ w){i:Nat}{d:fG}(hx:ds[i]?=some d){K:Addr->Prop}(hK:∀b o,(∀w',bO σ w'->∀(j:Nat) v,(uC d)[j]?=some v->cell w' ⟨b,o+j,none⟩=some v)->K ⟨b,o,none⟩):Ix sl.a sl.len (i:Int) 8 K:=by
 obtain⟨b,o,u,r,p⟩:=h.at_ i d hx;have x:=(cQ.1 hx).1;have g:=h.len;rw[u];refine ix O O ?_;rw[add_lit,dE];exact hK b _ λw' m j v s=>by rw[Q0 m r id];exact p j v s
theorem Fg {b o i:Nat}{h:Hp}{x:ByteArray}{K:ByteArray->Prop}(hc:cell h ⟨b,o+i,none⟩=some (.string x))(hK:K x):Bh (Addr.add ⟨b,o,none⟩ i) h K:=⟨x,by rw[add_lit];exact hc,hK⟩
theorem _root_.Go.Vc.bX.rT {b o i:Nat}{cs:List Value}(hb:bX σ b cs){x:ByteArray}{K:ByteArray->Prop}(hc:cs[o+i]?=some (.string x))(hK:K x):Bh (Addr.add ⟨b,o,none⟩ i) σ K:=⟨x,by rw[add_lit,hb.cell];exact hc,hK⟩
def xJ (ad:List Int)(d:fG):Int:=if d.of<0\/ad=[]then d.pl else IntKind.i64.wrap (ad.getD (d.of.toNat%ad.length) 0+d.pl)
theorem Ly {ad:List Int}{d:fG}(h:nY d):pa (xJ ad d):=by
 unfold xJ;split
 ·exact h.pl
 ·exact T9 _
theorem MZ {addrs:Sl}{ad:List Int}(hs:cT addrs 1 (Wv ad) σ F)(d:fG){R:aN}(hR:∀σ',bO σ σ'->R (xJ ad d) σ'):Yl.c addrs d.kd d.th d.a d.b d.of d.pl d.va d.s σ R:=by
 refine Yl.o ?_;have A:addrs.len=ad.length:=by have:=hs.1;simp[Wv]at this;omega
 refine nw (cs:=uC d) λv D e j=>j.rI rfl (Ud (λr w=>w=v/\r=decide (d.of<0\/ad=[])) (λr w ⟨C,z⟩=>?_) λJ y=>cI (λp=>y _ _ ⟨rfl,by rw[zT (.inl p)]⟩) λp=>y _ _ ⟨rfl,?_⟩)
 ·subst C;have g:=hR w e;by_cases hc:d.of<0\/ad=[]
  ·refine cJ (by rw[z];exact zT hc) (j.rI rfl ?_);unfold xJ at g;rw[zB hc]at g;exact g
  ·have i:0<ad.length:=uf.2 λh=>hc (.inr h);refine cG (by rw[z];exact zg hc) (j.rI rfl (nz O ?_));have u:0<=d.of:=by omega
   have B:d.of.tmod (addrs.len:Int)=((d.of.toNat%ad.length:Nat):Int):=by
    rw[Kj u,A,Int.natCast_emod,Int.toNat_of_nonneg u]
   rw[B];have m:d.of.toNat%ad.length<ad.length:=yq _ i;have x:ad[d.of.toNat%ad.length]?=some ad[d.of.toNat%ad.length]:=cM m;refine(cT.loc _ _ _ |>.bK (aH.cut hs) e).tj x (j.rI rfl (C6 ?_));unfold xJ at g;rw[zA hc,zL,x]at g;exact g
 ·rw[A];rw[qN];simp only[zY,zV];constructor
  ·intro h;exact .inr (BK.1 O)
  ·rintro(h|h)
   ·exact(p h).elim
   ·rw[h];rfl
theorem OQ {l:Sl}{most:Int}{R:aO}(hR:R (decide ((l.len:Int)>most)) σ):X1.c l most σ R:=by
 refine X1.o ?_;exact hR
theorem Wnt {xs:List (Int×Int×Int)}(h:Qo xs=true):(xs.map ZX).map lS=xs:=by
 rw[zk]
 conv=>rhs;rw[←AZ xs]
 apply ze;intro t ht;obtain⟨i,g⟩:=zM ht;have:=((Qx xs).1 h).2.2.1 i t g;obtain⟨c,_,b,a,d,e⟩:=Cp this;simp only[Function.comp,id];rw[show ZX t=c from b];unfold lS;rw[←a,←d,←e]
theorem WpL {xs:List (Int×Int×Int)}(h:Qo xs=true):(xs.map ZX).length<=40/\∀c∈xs.map ZX,c.ok:=by
 refine⟨by have:=((Qx xs).1 h).2.1;simpa using this,λc e=>?_⟩;obtain⟨t,b,rfl⟩:=zC.1 e;obtain⟨i,g⟩:=zM b;have:=((Qx xs).1 h).2.2.1 i t g;obtain⟨c,a,d,_⟩:=Cp this;rw[show ZX t=c from d];exact a
structure wU (H:Hw) (aF:Int):Prop where
 hi:HI H [] (VC H.cf.aF)
 cf:pM H
 pg:(H.cf.aF:Int)=aF
 live:H.live=[]
 ph:∀g∈H.bR,g.ph=none
theorem I7 {xs:List (Int×Int×Int)}{p a t b r:Int}(h:Qo xs=true)(hc:vY p a t b r=true):wU (Ur (xs.map ZX) ⟨p.toNat,a.toNat,t.toNat,b.toNat,r.toNat⟩) p:=by
 obtain⟨⟨u,m,s⟩,⟨x,j⟩,⟨w,y⟩,_⟩:=(IY p a t b r).1 hc;obtain⟨d,e⟩:=WpL h;refine⟨Pu (cf:=⟨p.toNat,a.toNat,t.toNat,b.toNat,r.toNat⟩) aC aC aC aC d e,⟨by simp only[Ur];omega,by simp[Ur],?_⟩,by simp only[Ur];omega,rfl,λg i=>by rw[Ei i]⟩;show Qo ((xs.map ZX).map lS)=true;rw[Wnt h];exact h
theorem PV (g:Gl σ)(gd:Gd σ)(b b1 b2 b3 b4 b5:Int){R:Option Addr->Hp->Prop}(h0:∀σ',bO σ σ'->R none σ')
 (h1:∀σ' L N H,bO σ σ'->σ.size<=N->N<=σ'.size->HH σ' (λb=>N<=b) L H->wU H b1->R (some ⟨L.p,0,none⟩) σ'):Wu.c b b1 b2 b3 b4 b5 σ R:=by
 refine Wu.o ?_;refine nw (cs:=[.int .i64 b,.int .i64 b1,.int .i64 b2,.int .i64 b3,.int .i64 b4,.int .i64 b5]) λv G e j=>j.rI rfl ?_;by_cases hw:2<=b/\b<=16
 ·refine MM b hw.1 hw.2 λs E C A=>?_;have a:=C.bV j id;have d:=e.trans C;have r:Qo (vF b)=true:=by
   have:=Gg b.toNat O O;rw[show((b.toNat:Nat):Int)=b by omega]at this;exact this
  refine a.gG rfl (a.gG rfl (a.gG rfl (a.gG rfl (a.gG rfl ?_))));refine Fx A (g.bK d) (gd.bK d) b1 b2 b3 b4 b5 (λu=>by rw[r]at u;cases u) (λ_ B w m=>?_) λ_ B w L m D=>?_
  ·exact cJ rfl (h0 w (d.trans m))
  ·exact cG rfl (h1 w L E.size _ (d.trans m) d.1 m.1 D (I7 r B))
 ·refine WlW b O (j.gG rfl (j.gG rfl (j.gG rfl (j.gG rfl (j.gG rfl ?_)))));have A:gM v ⟨none,0,0⟩ []:=⟨rfl,λi x y z F=>by simp at F⟩;refine Fx A (g.bK e) (gd.bK e) b1 b2 b3 b4 b5 (λ_ w m=>cJ rfl (h0 w (e.trans m))) (λr=>?_) λr=>?_
  ·exact absurd r aB
  ·exact absurd r aB
def Safe (H:Hw)(d:fG)(x:Int)(e:Int×Bk):Prop:=(∀j,gY H j≠some (.find e.1))/\¬((d.kd=3\/d.kd=1\/d.kd=6)/\e.1<=x/\x<e.1+e.2.2.1)
structure xv (H:Hw) (d:fG) (x:Int) (H':Hw):Prop where
 hi:∃held s0,HI H' held s0
 kp:Qd H' H
 fx:∀e∈H.live,Safe H d x e->e∈H'.live/\(∀w:Nat,e.1<=((8*w:Nat):Int)->((8*w:Nat):Int)<e.1+e.2.2.1->H'.sp.wd w=H.sp.wd w)/\∀j,gY H' j≠some (.find e.1)
theorem xv.op (h:HI H held s0){d:fG}{x:Int}(o:iY H H')(hl:∀e∈H.live,Safe H d x e->e∈H'.live):xv H d x H':=
 ⟨o.hi,o.kp,λe a b=>⟨hl e a b,h.kl o.ks e a,λj=>by rw[o.ph];exact b.1 j⟩⟩
theorem xv.ar {d:fG}{x:Int}(o:jC H H'):xv H d x H':=
 ⟨o.hi,o.kp,λe a b=>⟨by rw[o.live];exact a,o.kl e a,λj=>by unfold gY;rw[o.bR];exact b.1 j⟩⟩
theorem HI.jO (h:HI H held s0){e:Int×Bk}(he:e∈H.live):8<=e.2.2.1/\0<=e.1/\e.1%8=0/\e.2.2.1%8=0/\e.1+e.2.2.1<=270000:=by
 obtain⟨_,p,d,F,z,B,C,_⟩:=h.lv e he;have G:=h.BR.size_pos d;have E:=h.BR.lY d;obtain⟨A,y,hd⟩:=h.BR.hf p d;have K:p.addr%8=0:=by
  rcases hd with⟨_,_,r,hr,c2,c3⟩|⟨j,c,c1,c2,c3,c4,_⟩
  ·omega
  ·obtain⟨a,u,b,x⟩:=c4;have:a=c:=Option.some.inj (b.1.symm.trans c2);subst this;have m:=(h.BR.ga _ A y).cB j a u b;obtain⟨l,s,i,J,D,e,_⟩:=(VM m).1 x;have g:=m.ok;unfold bY.ok at g;unfold at_ at e;have w:a.size=8*(a.size/8):=by omega
   have:i*a.size=8*(i*(a.size/8)):=by rw[Nat.mul_left_comm,←w]
   omega
 omega
theorem xv.free (h:HI H held s0){d:fG}{x thread e:Int}(hd:d.kd=1)(o:iY H H')(hf:xZ H thread x H' e):xv H d x H':=by
 refine xv.op h o λj a g=>?_;have i:=h.jO a;rcases hf with⟨_,h2,_⟩|⟨_,_,_,h4⟩|⟨_,b,_,_,h4⟩
 ·rw[h2];exact a
 ·rw[h4];exact a
 ·rw[h4];refine EI.2 ⟨a,λm=>g.2 ⟨.inr (.inl hd),O,O⟩⟩
end Go.Ar
namespace Go.Ar
open Go Go.Vc Go.Proofs
variable {σ w w':Hp}{F P Q X:Rg}{L:dQ}{H H':Hw}{held:List Pc}{s0:Sp}{t n:Nat}{g:Th}
structure kZ (σ0 σ:Hp) (L:dQ) (H:Hw) (held:List Pc) (s0:Sp) (P Q:Rg) (addrs:Sl) (ad:List Int):Prop where
 e:bO σ0 σ
 h:HH σ P L H
 hi:HI H held s0
 cf:pM H
 pg:H.cf.aF<=128
 pP:∀b,P b->σ0.size<=b/\b<σ.size
 pQ:∀b,Q b->σ0.size<=b/\b<σ.size/\¬P b
 row:bS addrs 1 (Wv ad) σ Q
 al:ad.length<=60
 g0:jS (λb=>σ0.size<=b)/\¬σ0.size<=1
variable {σ0:Hp}{addrs:Sl}{ad:List Int}
theorem kZ.out (p:kZ σ0 σ L H held s0 P Q addrs ad){T:Rg}(e:Ext T σ w)(hT:∀b,b<σ.size->T b->¬P b/\¬Q b/\σ0.size<=b):kZ σ0 w L H held s0 P Q addrs ad:=by
 have r:=e.1;have g:Ext (λb=>T b/\b<σ.size) σ w:=⟨e.1,λb a m=>e.2 b a λd=>m ⟨d,a⟩⟩;refine⟨Ext.fH p.e g λb a=>.inr (hT b a.2 a.1).2.2,p.h.bU g (λb a j d=>(hT b a d.1).1 j) (λb a=>?_) (λa=>?_),p.hi,p.cf,p.pg,λb a=>⟨(p.pP b a).1,by have:=(p.pP b a).2;omega⟩,λb a=>⟨(p.pQ b a).1,by have:=(p.pQ b a).2.1;omega,(p.pQ b a).2.2⟩,aI.bU p.row g λb a i d=>(hT b a d.1).2.1 i,p.al,p.g0⟩
 ·exact p.g0.1 b (hT b a.2 a.1).2.2
 ·exact p.g0.2 (hT _ a.2 a.1).2.2
theorem WpU (hr:bS addrs 1 (Wv ad) σ Q)(hl:ad.length<=1000000)(x:Int){e t:Nat}{K:Sl->Hp->Prop}(hK:∀s' w,Ext Q σ w->bS s' 1 (Wv (ad++[x])) w (λb=>Q b\/σ.size<=b/\b<w.size)->K s' w) :
 Nw (.cells #[.int .i64 x] t (0,0)) σ λn v=>App addrs 1 8 e [.int .i64 0] ⟨some n,1,1⟩ v K:=by
 have p:addrs.len=ad.length:=by have:=hr.1;simp[Wv]at this;omega
 refine bS.push (F:=λb=>Q b\/σ.size<=b) (vs:=[.int .i64 x]) (aI.mono hr λb _ a=>.inl a) (λb a=>.inr a) rfl rfl (by simp[dP]) O O λs' w i g j=>hK s' w ⟨g.1,λb a m=>g.2 b a λd=>d.elim m λd=>O⟩ ?_;have:Wv (ad++[x])=Wv ad++[.int .i64 x]:=by simp[Wv]
 rw[this];refine aI.mono (aI.cut j) λb a d=>?_;rcases d.1 with h1|h1
 ·exact .inl h1
 ·exact .inr ⟨h1,a⟩
end Go.Ar
namespace Go.Proofs
open Go.Shelf
def Tryz.iL:Go.Shelf.Ren:=⟨fun|7=>67|10=>95|n=>n,fun|23=>44|26=>3|3=>76|28=>117|0=>0|27=>116|33=>152|4=>4|n=>n,fun|n=>n⟩
theorem Tryz.oZ:Go.Proofs.SlLaysZI.n7 Tryz.prog Tryz.iL:={
 mixed:=by kernel_rfl
 f7:=⟨Tryz.f67.name,by decide,Tryz.func67.trans (congrArg some (by kernel_rfl))⟩
 f10:=⟨Tryz.f95.name,by decide,Tryz.func95.trans (congrArg some (by kernel_rfl))⟩
 t0:=Tryz.underlying0
 a0:=Tryz.isAgg0
 z0:=Tryz.sizeOf0
 v0:=Tryz.zeroValue0
 t4:=Tryz.underlying4
 a4:=Tryz.isAgg4
 z4:=Tryz.sizeOf4
 v4:=Tryz.zeroValue4
 t23:=Tryz.underlying44
 a23:=Tryz.isAgg44
 z23:=Tryz.sizeOf44
 v23:=Tryz.zeroValue44
 t26:=Tryz.underlying3
 a26:=Tryz.isAgg3
 z26:=Tryz.sizeOf3
 v26:=Tryz.zeroValue3
 t27:=Tryz.underlying116
 a27:=Tryz.isAgg116
 z27:=Tryz.sizeOf116
 v27:=Tryz.zeroValue116
 t28:=Tryz.underlying117
 a28:=Tryz.isAgg117
 z28:=Tryz.sizeOf117
 v28:=Tryz.zeroValue117
 t33:=Tryz.underlying152
 a33:=Tryz.isAgg152
 z33:=Tryz.sizeOf152
 v33:=Tryz.zeroValue152}
end Go.Proofs
namespace Go.Ar
open Go Go.Vc Go.Proofs Go.RowKit Go.Maps Go.Sort Go.Shelf
open Go.Vc (bW dG cR)
open Go.Bu (qV DS Gp IL Hg LO)
variable {σ w w':Hp}{F P Q X S:Rg}{L:dQ}{H H':Hw}{held:List Pc}{s0 sp:Sp}{t n:Nat}{g:Th}{σ0:Hp}
def GF:Nat:=Tryz.iL.f 10
def Fz:Nat:=Tryz.iL.t 23
theorem Wl4 (m:Option Nat){R:Fv->Hp->Prop}(hR:R ⟨GF,#[],#[.pointer (some ⟨σ.size,0,none⟩)]⟩ (σ.push (.cells #[.map m] Fz (0,0)))) :
 ZP.c m σ R:=by
 rintro w rfl;refine(callsIn_wide.1 (AnyZI.keys_in Tryz.oZ Fence.wide 5 trivial rfl m w)).mono ?_;rintro e a ⟨rfl,rfl⟩;exact⟨⟨rfl,rfl,rfl,wg (by show _<(w.heap.push _).size;simp)⟩,[.func (.func GF) #[] #[.pointer (some ⟨w.heap.size,0,none⟩)]],rfl,⟨GF,#[],#[.pointer (some ⟨w.heap.size,0,none⟩)]⟩,rfl,hR⟩
theorem ψ {w:World}{c m:Nat}{B:List (Int×Bk)}(hc:cell w.heap ⟨c,0,none⟩=some (.map (some m)))(hm:dN w.heap m .i64 (.ag 4) B)(hb:∀x∈B,Go.Bu.pa x.1)(hs:B.length<=1000000)(n:Nat)(hn:1<=n) :
 SeqGives Fence.wide n Tryz.prog GF #[.pointer (some ⟨c,0,none⟩)] encZ (λss=>ss.Perm (B.map (·.1))) B.length w:=by
 obtain⟨D,p,j,b⟩:=Hg (P:=Tryz.prog) Tryz.oZ.t26 hm hb hs;have a:c<w.heap.size:=by
  unfold cell at hc;split at hc
  ·rename_i h;exact(pJ.1 h).1
  ·cases hc
 have:=AnyZI.keys_gives (ρ:=Tryz.iL) {Tryz.oZ with} Fence.wide n trivial rfl hn c m B.length D w a hc p;intro l J W hW hJ hY h0;rw[b]at this;refine(this l J W hW hJ hY h0).mono ?_;rintro e W' ⟨i,ss,g,d⟩;exact⟨i,ss,g.trans j,d⟩
theorem Wg7 {c m:Nat}{B:List (Int×Bk)}(hc:cell σ ⟨c,0,none⟩=some (.map (some m)))(hm:dN σ m .i64 (.ag 4) B)(hb:∀x∈B,Go.Bu.pa x.1)(hs:B.length<=1000000){R:Sl->Hp->Prop}
 (hR:∀(s:Sl) (σ':Hp) (ss:List Int),bO σ σ'->ss.Perm (B.map (·.1))->ss.Pairwise (· <= ·)->qV σ.size σ' s (ss.map (Value.int .i64))->R s σ') :
 VX.c ⟨GF,#[],#[.pointer (some ⟨c,0,none⟩)]⟩ σ R:=by
 rintro w rfl;have i:=ψ hc hm hb hs 2 O;have p:B.length<=maxLen:=by unfold maxLen;omega
 have z:=AnyZI.sorted_in Tryz.vz Fence.wide 5 trivial trivial trivial trivial rfl O (LO _) (Tryz.tY.f5.enters rfl) GF #[.pointer (some ⟨c,0,none⟩)] trivial (Tryz.oZ.f10.enters rfl) _ _ p O _ i;refine(callsIn_wide.1 z).mono ?_;rintro e C ⟨v,ss,rfl,u,g,r,d⟩;obtain⟨s,rfl,j⟩:=DS g;refine⟨IL d,[.slice s.a s.len s.cap],rfl,s,rfl,?_⟩;refine hR s _ (ss.mergeSort λx y=>decide (x<=y)) (Gp d) ((List.mergeSort_perm _ _).trans u) ?_ j;have:=List.pairwise_mergeSort (le:=λx y:Int=>decide (x<=y)) (λa b c D A=>by simp at *;omega) (λa b=>by simp;omega) ss;exact this.imp (λh=>by simpa using h)
def qv (b:Bk):List Value:=[.int .i64 b.1,.int .i64 b.2.1,.int .i64 b.2.2.1,.int .i64 b.2.2.2]
def kO (bs:List Bk):List Value:=bs.flatMap qv
theorem Cr (bs:List Bk):(kO bs).length=bs.length*4:=by
 unfold kO
 induction bs with
 | nil=>rfl
 | cons b bs ih=>rw[qb,zK,ih];simp[qv];omega
theorem Ed:∀{bs:List Bk} {i:Nat} {b:Bk},bs[i]?=some b->∀{j:Nat} {v:Value},(qv b)[j]?=some v->(kO bs)[4*i+j]?=some v
 | [],i,b,h,_,_,_=>by simp at h
 | a::bs,0,b,h,j,v,hv=>by
  simp only[An,Option.some.injEq]at h;subst h;have hj:=(cQ.1 hv).1;show(qv a++kO bs)[4*0+j]?=_;rw[show 4*0+j=j by omega,zh hj];exact hv
 | a::bs,i+1,b,h,j,v,hv=>by
  have d:=Ed (bs:=bs) (i:=i) (b:=b) (by simpa using h) hv;show(qv a++kO bs)[4*(i+1)+j]?=_;rw[zp (by simp[qv];omega)];have:4*(i+1)+j-(qv a).length=4*i+j:=by simp[qv];omega
  rw[this];exact d
structure mS (live:List (Int×Bk)) (bs:List Bk):Prop where
 len:bs.length=live.length
 mem:∀b,b∈bs↔(b.1,b)∈live
 tL:bs.Pairwise λa b=>a.1<b.1
theorem HI.jE (h:HI H held s0):H.live.length<=1000000:=by
 have s:(H.live.map λe=>e.1.toNat).Nodup:=by
  have m:=nB.1 h.lk;refine nB.2 λi j u g d e=>?_;have b:i<H.live.length:=by simpa using u
  have a:j<H.live.length:=by simpa using g
  refine m i j (by simpa using b) (by simpa using a) d ?_;simp only[wc]at e ⊢;have w:=(h.jO (zf b)).2.1;have y:=(h.jO (zf a)).2.1;omega
 have:=Fp 270000 _ s λx r=>by
  obtain⟨e,p,rfl⟩:=zC.1 r;have:=h.jO p;omega
 have z:(H.live.map λe=>e.1.toNat).length=H.live.length:=by simp
 omega
theorem cT.xV {B:Nat}{s:Sl}{xs:List Value}(h:qV B σ s xs):cT s 1 xs σ (λb=>B<=b):=by
 refine⟨by have:=h.1;omega,?_⟩;rcases h.2 with⟨h0,_⟩|⟨b,cs,hb,ha,hk,hc⟩
 ·exact .inl h0
 ·exact .inr ⟨b,0,cs,hb,ha,hk.q,λj a=>by rw[zI];exact hc j a⟩
set_option maxRecDepth 8000 in
theorem LQ (h:HH σ F L H)(hi:HI H held s0){R:Sl->Hp->Prop}(hR:∀s σ' bs,bO σ σ'->mS H.live bs->bS s 4 (kO bs) σ' (λb=>σ.size<=b)->R s σ'):Zj.c (aW L.p) σ R:=by
 refine Zj.o ?_;have D:∀x∈H.live,Go.Bu.pa x.1:=λx d=>by have:=hi.jO d;unfold Go.Bu.pa;omega
 have K:=hi.jE;refine KN h (cG rfl (aG (h.hd.rM rfl (Wl4 _ ?_))));have Z:bO σ (σ.push (.cells #[.map (some L.lm)] Fz (0,0))):=Ext.push _ _ _;have J:=h.bK Z;refine Wg7 (by unfold cell;simp) J.mR D K λs y ss W G E hs=>?_;have Q:=Z.trans W;have C:=cT.xV hs;have M:ss.Nodup:=G.nodup_iff.2 hi.lk;have u:ss.length=H.live.length:=by rw[G.length_eq];simp
 have hsl:s.len=ss.length:=by have:=C.1;simp at this;omega
 have A:∀x∈ss,∃b,bW H.live x=some b/\b.1=x:=λx d=>by
  obtain⟨e,he,rfl⟩:=zC.1 (G.mem_iff.1 d);exact⟨e.2,Ug hi.lk he,(hi.lv e he).1⟩
 let f:Int->Bk:=λx=>(bW H.live x).getD (0,0,0,0)
 have r:∀x∈ss,(f x).1=x/\bW H.live x=some (f x):=λx d=>by
  obtain⟨b,g,U⟩:=A x d;have:f x=b:=by show(bW H.live x).getD _=b;rw[g];rfl
  rw[this];exact⟨U,g⟩
 have hz1:σ.size<y.size:=by
  have J:=W.1;have h2:(σ.push (.cells #[.map (some L.lm)] Fz (0,0))).size=σ.size+1:=by simp
  omega
 refine KA (a:=.s) (bb:=bN) (λ(out:Sl) (z:Int) w=>∃i:Nat,z=i/\i<=ss.length/\bO y w/\bS out 4 (kO ((ss.take i).map f)) w (λb=>y.size<=b)) (λ_ z _=>ss.length-z.toNat) ⟨0,rfl,O,Ext.refl _ _,⟨by simp[kO],.inl ⟨rfl,rfl⟩⟩⟩ ?_;rintro(out:Sl) (z:Int) w ⟨i,rfl,hil,ew,hr⟩;have hw:=J.bK (W.trans ew);refine cI (λB=>?_) λhge=>?_
 ·have d:ss[i]?=some (ss[i]' O):=cM _;have hol:out.len=i:=by have:=hr.1;rw[Cr]at this;simp at this;omega
  refine(aH.bK (aH.cut C) ew).tj d (aG (hw.hd.rM rfl ⟨H.live,hw.mR,?_⟩));refine hr.push (F:=λb=>y.size<=b) (vs:=qv (f (ss[i]' O))) (λb g=>by have:=ew.1;omega) rfl rfl (by simp[qv,dP]) O O λs' w' X V N=>?_;have e3:bO y w':=Ext.fresh ew V λb g=>g;refine cA (m:=i+1) O O ⟨⟨i+1,rfl,O,e3,?_⟩,O⟩;have:kO ((ss.take (i+1)).map f)=kO ((ss.take i).map f)++qv (f (ss[i]' O)):=by
   unfold kO;rw[zl,d,zy,IB];simp only[wV,zH,uB,qb,List.flatMap_nil,lZ]
  rw[this];exact N
 ·have S:i=ss.length:=by omega
  subst S;rw[zo]at hr;refine hR out w (ss.map f) (Q.trans ew) ⟨by simp[u],λb=>?_,?_⟩ (aI.mono hr λb _ g=>by
   show σ.size<=b;have g:y.size<=b:=g;omega)
  ·constructor
   ·intro g;obtain⟨x,d,rfl⟩:=zC.1 g;obtain⟨q1,q2⟩:=r x d;rw[q1];exact Vk q2
   ·intro g;have d:b.1∈ss:=G.mem_iff.2 (zC.2 ⟨_,g,rfl⟩);refine zC.2 ⟨b.1,d,?_⟩;have:=(r _ d).2;rw[Ug hi.lk g]at this;exact(Option.some.inj this).symm
  ·rw[py];have B:ss.Pairwise (· < ·):=(E.and M).imp λ⟨J,h2⟩=>by
    have:_≠_:=h2;omega
   refine nB.2 λi j hi Y P=>?_;rw[(r _ (zf hi)).1,(r _ (zf Y)).1];exact nB.1 B i j hi Y P
theorem I5 {s:Sl}{bs:List Bk}(hs:cT s 4 (kO bs) σ F){i:Nat}{b:Bk}(hb:bs[i]?=some b){K:Addr->Prop}(hK:∀bb o,(∀(j:Nat) v,(qv b)[j]?=some v->cell σ ⟨bb,o+j,none⟩=some v)->K ⟨bb,o,none⟩):Ix s.a s.len (i:Int) 4 K:=by
 have g:=(cQ.1 hb).1;have x:s.len=bs.length:=by have:=hs.1;rw[Cr]at this;omega
 obtain⟨bb,o,e,u⟩:=hs.cell (Ed hb (j:=0) rfl);rw[e];refine ix O O ?_;rw[add_lit,dE];refine hK bb _ λj v p=>?_;obtain⟨r,w,d,m⟩:=hs.cell (Ed hb p);rw[e]at d;cases d;rw[←m];congr 2;omega
end Go.Ar
namespace Go.Ar
open Go.Bu (jH)
variable {W:Wd}{k:Nat}{A:AR}
def eH (f:Pc->Bool)(l:List Pc):Nat:=((l.filter f).map (·.size)).sum
def td (k:Nat)(p:Pc):Bool:=p.k==k&&decide (p.cls<0)
def Vg (k:Nat)(p:Pc):Bool:=p.k==k&&(!decide (p.cls<0)&&p.dF)
def yN (k:Nat)(p:Pc):Bool:=p.k==k&&(!decide (p.cls<0) && !p.dF)
theorem FA (m j:Nat)(x:Nat)(hj:j<m):((List.range m).map λi=>if i=j then x else 0).sum=x:=by
 induction m with
 | zero=>omega
 | succ m ih=>
  rw[mD,zy,uv,List.map_singleton,List.sum_singleton];by_cases h:j=m
  ·subst h;have:((List.range j).map λi=>if i=j then x else 0).sum=0:=by
    rw[IN];intro y hy;obtain⟨i,a,rfl⟩:=zC.1 hy;rw[zA (by have:=zQ.1 a;omega)]
   rw[this,zB rfl];omega
  ·rw[ih O,zA O,zt]
theorem VR {α:Type}(l:List α)(f g:α->Nat):(l.map λi=>f i+g i).sum=(l.map f).sum+(l.map g).sum:=by
 induction l with
 | nil=>rfl
 | cons x l ih=>simp only[zH,zS,ih];omega
theorem GJ (m:Nat)(f:Pc->Bool):∀(l:List Pc),(∀p∈l,f p=true->∃j:Nat,j<m/\p.cls=j)->eH f l=((List.range m).map λ(j:Nat)=>eH (λp=>f p&&p.cls==(j:Int)) l).sum
 | [],_=>by
  symm
  show _=(0:Nat);rw[IN];intro y hy;obtain⟨i,_,rfl⟩:=zC.1 hy;rfl
 | p::l,h=>by
  have s:=GJ m f l λq r=>h q (by simp[r]);have b:∀g:Pc->Bool,eH g (p::l)=(if g p then p.size else 0)+eH g l:=λg=>by
   unfold eH;rw[sA];split<;>simp
  rw[b,s];have e:((List.range m).map λ(j:Nat)=>eH (λq=>f q&&q.cls==(j:Int)) (p::l))=(List.range m).map λ(j:Nat)=>(if f p&&p.cls==(j:Int)then p.size else 0)+eH (λq=>f q&&q.cls==(j:Int)) l:=by
   apply ze;intro j _;rw[b]
  rw[e,VR]
  congr 1
  by_cases hf:f p=true
  ·obtain⟨j,u,a⟩:=h p aA hf;rw[zB hf];have d:((List.range m).map λ(i:Nat)=>if f p&&p.cls==(i:Int)then p.size else 0)=(List.range m).map λi=>if i=j then p.size else 0:=by
    apply ze;intro i _;rw[hf,a,xT];by_cases hij:i=j
    ·rw[zB hij,zB (by simp[hij])]
    ·rw[zA hij,zA aE]
   rw[d,FA m j _ u]
  ·rw[zA hf]
   symm
   rw[IN];intro y hy;obtain⟨i,_,rfl⟩:=zC.1 hy;rw[zA (by simp[hf])]
theorem Nh {l:List Pc}{f:Pc->Bool}{c:Nat}(h:∀p∈l,f p=true->p.size=c):eH f l=(l.filter f).length*c:=by
 unfold eH;have:∀q∈l.filter f,q.size=c:=λq a=>h q (zF.1 a).1 (zF.1 a).2;generalize l.filter f=m at this
 induction m with
 | nil=>simp
 | cons x m ih=>
  simp only[zH,zS,zN];rw[this x aA,ih λq a=>this q (by simp[a]),zc];omega
theorem Dr {α:Type}(l:List α)(f:α->Nat)(c:Nat):(l.map f).sum*c=(l.map λj=>f j*c).sum:=by
 induction l with
 | nil=>simp
 | cons x l ih=>simp only[zH,zS,zc,ih]
theorem UF (f:Pc->Bool)(p:Pc)(l:List Pc):eH f (p::l)=(if f p then p.size else 0)+eH f l:=by
 unfold eH;rw[sA];split<;>simp
theorem D9 {f g h:Pc->Bool}:∀(l:List Pc),(∀p∈l,(if f p then p.size else 0)+(if g p then p.size else 0)=if h p then p.size else 0)->eH f l+eH g l=eH h l
 | [],_=>rfl
 | p::l,e=>by
  have h1:=e p aA;have b:=D9 l λq a=>e q (by simp[a]);rw[UF,UF,UF];omega
def wT {α:Type}(f:bY->α->Nat)(tb:List bY)(l:List α)(j:Nat):Nat:=match tb[j]?,l[j]? with
 | some c,some a=>f c a
 | _,_=>0
theorem yU {α:Type}{f:bY->α->Nat}{tb:List bY}{l:List α}{j:Nat}{c:bY}{a:α}(h1:tb[j]?=some c)(h2:l[j]?=some a):wT f tb l j=f c a:=by unfold wT;rw[h1,h2]
theorem U9 {α:Type}(f:bY->α->Nat):∀(tb:List bY) (l:List α),l.length=tb.length->((tb.zip l).map λx=>f x.1 x.2).sum=((List.range tb.length).map (wT f tb l)).sum
 | [],l,h=>by simp
 | c::tb,[],h=>by simp at h
 | c::tb,a::l,h=>by
  have ih:=U9 f tb l (by simpa using h);rw[F5,zH,zS,ih,zN,y6,zH,zS,zk];rfl
theorem Oz (h:WI W){f:Pc->Bool}{cl:Int}(hf:∀p,f p=true->p.k=k/\p.cls=cl):((W.held.filter f).map (·.addr)).Nodup:=by
 have hk:=py.1 h.hk;refine py.2 ((hk.filter f).imp_of_mem λ{a b} j m d e=>d ?_);have i:=hf a (zF.1 j).2;have g:=hf b (zF.1 m).2;unfold Pc.key;rw[i.1,i.2,g.1,g.2,e]
theorem R7 (h:WI W)(hk:W.bT[k]?=some A){j:Nat}{c:bY}{ss:List cH}(hc:Cl A j c ss):((W.held.filter λp=>p.k==k&&p.cls==(j:Int)).map (·.addr)).Perm (qR c ss):=by
 have d:=(h.ga k A hk).cB j c ss hc;rw[vJ (Oz h (k:=k) (cl:=(j:Int)) λp b=>by simpa using b) (Rv d)];intro x;rw[Rx d,←KB hc];constructor
 ·intro hx;obtain⟨p,b,rfl⟩:=zC.1 hx;have a:=zF.1 b;have e:p.k=k/\p.cls=(j:Int):=by simpa using a.2
  obtain⟨_,_,_,ht,_⟩:=h.cls a.1 e.2 (by rw[e.1];exact hk);exact ht
 ·intro hx;obtain⟨p,b,m,g,i⟩:=h.ht k A hk j (x:Int) hx;exact zC.2 ⟨p,zF.2 ⟨b,by simp[m,g]⟩,Int.ofNat.inj i⟩
theorem T7 (h:WI W)(hk:W.bT[k]?=some A){j:Nat}{t:fT}(ht:A.cE[j]?=some t):(W.held.filter λp=>Vg k p&&p.cls==(j:Int)).length=t.bs.flatten.length:=by
 have ga:=h.ga k A hk;have z:j<A.tb.length:=by rw[←ga.lt];exact(cQ.1 ht).1
 obtain⟨c,w,_,m,_⟩:=ga.cl z;have G:=ga.cB j c w m;have J:=ga.rQ j t ht;have C:∀x∈t.bs.flatten,∃y:Nat,x=y:=λx i=>Tk.nat G (ga.nV j c w t m ht x i);have D:∀p:Pc,(Vg k p&&p.cls==(j:Int))=true->p.k=k/\p.cls=(j:Int):=λp d=>by
  simp[Vg]at d;exact⟨d.1.1,d.2⟩
 have d:((W.held.filter λp=>Vg k p&&p.cls==(j:Int)).map λp=>(p.addr:Int)).Perm t.bs.flatten:=by
  have H:((W.held.filter λp=>Vg k p&&p.cls==(j:Int)).map λp=>(p.addr:Int)).Nodup:=by
   have:=Oz h (k:=k) (cl:=(j:Int)) D;exact py.2 ((py.1 this).imp λ{a b} r e=>r (Int.ofNat.inj e))
  rw[vJ H J];intro x;constructor
  ·intro i;obtain⟨p,d,rfl⟩:=zC.1 i;have g:=zF.1 d;have e:=D p g.2;have s:p.dF=true:=by have:=g.2;simp[Vg]at this;exact this.1.2.2
   obtain⟨_,_,_,_,u⟩:=h.cls g.1 e.2 (by rw[e.1];exact hk);exact(UG ht).1 (u.1 s)
  ·intro i;obtain⟨p,d,F,B,E⟩:=h.ht k A hk j x ((KB m).2 (ga.nV j c w t m ht x i));obtain⟨_,_,_,_,u⟩:=h.cls d B (by rw[F];exact hk);have s:p.dF=true:=u.2 (by rw[E];exact(UG ht).2 i);refine zC.2 ⟨p,zF.2 ⟨d,?_⟩,E⟩;simp[Vg,F,B,s]
 have:=d.length_eq;simpa using this
theorem Lp (h:WI W)(hk:W.bT[k]?=some A){j:Nat}{c:bY}(hc:A.tb[j]?=some c){p:Pc}(hp:p∈W.held)(e:p.k=k/\p.cls=(j:Int)):p.size=c.size:=by
 obtain⟨d,b,a,_⟩:=h.cls hp e.2 (by rw[e.1];exact hk);rw[b]at hc;cases hc;exact a
theorem Lg (h:WI W)(hk:W.bT[k]?=some A){p:Pc}(hp:p∈W.held)(e:p.k=k)(hn:¬p.cls<0):∃j:Nat,j<A.tb.length/\p.cls=j:=by
 rcases h.hd hk hp e with⟨h1,_⟩|⟨j,c,h1,h2,_⟩
 ·omega
 ·exact⟨j,(cQ.1 h2).1,h1⟩
theorem ε (h:WI W)(hk:W.bT[k]?=some A):Kd A=eH (Vg k) W.held:=by
 have ga:=h.ga k A hk;rw[GJ A.tb.length (Vg k) W.held λp b a=>Lg h hk b (by simp[Vg]at a;exact a.1) (by simp[Vg]at a;omega)];unfold Kd;rw[U9 (λc t=>t.bs.flatten.length*c.size) A.tb A.cE ga.lt]
 congr 1
 apply ze;intro j hj;obtain⟨c,g,t,e,d⟩:=ga.cl (zQ.1 hj);rw[yU e.1 d,Nh (c:=c.size) λp b a=>Lp h hk e.1 b (by simp[Vg]at a;exact⟨a.1.1,a.2⟩),T7 h hk d]
theorem Wne (h:WI W)(hk:W.bT[k]?=some A):VD A*256=eH (td k) W.held:=by
 have ga:=h.ga k A hk;have H:∀p∈W.held,td k p=true->p.k=k/\p.cls = -1:=λp g i=>by
  simp[td]at i;refine⟨i.1,?_⟩;rcases h.hd hk g i.1 with⟨B,_⟩|⟨j,c,B,_⟩
  ·exact B
  ·omega
 have g:((W.held.filter (td k)).map λp=>(p.addr,p.size)).Perm (A.runs.map λr=>(r.1*256,r.2*256)):=by
  have B:((W.held.filter (td k)).map λp=>(p.addr,p.size)).Nodup:=by
   have G:=py.1 h.hk;refine py.2 ((G.filter _).imp_of_mem λ{a b} J L w e=>w ?_);have u:=zF.1 J;have z:=zF.1 L;have D:=H a u.1 u.2;have C:=H b z.1 z.2;have d:a.addr=b.addr:=congrArg Prod.fst e;unfold Pc.key;rw[D.1,D.2,C.1,C.2,d]
  have N:(A.runs.map λr=>(r.1*256,r.2*256)).Nodup:=by
   refine py.2 (ga.kM.imp_of_mem λ{a b} J L w e=>?_);have:=ga.gC a J;have:=ga.gC b L;have d:a.1*256=b.1*256:=congrArg Prod.fst e;omega
  rw[vJ B N];rintro⟨x,y⟩;constructor
  ·intro i;obtain⟨p,g,F⟩:=zC.1 i;have m:=zF.1 g;have q:=H p m.1 m.2;obtain⟨_,r,hr,d,E⟩:=h.run m.1 q.2 (A:=A) (by rw[q.1];exact hk);exact zC.2 ⟨r,hr,by rw[←d,←E];exact F⟩
  ·intro i;obtain⟨r,hr,F⟩:=zC.1 i;obtain⟨p,g,d,E,P⟩:=h.hr k A hk r hr;refine zC.2 ⟨p,zF.2 ⟨g,by simp[td,d,E]⟩,?_⟩;obtain⟨_,M,s,D,C⟩:=h.run g E (A:=A) (by rw[d];exact hk);have:=ga.gC r hr;have:=ga.gC M s;have:M=r:=ga.gN s hr (x:=r.1) O O O O;rw[←F,D,C,this]
 have K:=(g.map Prod.snd).sum_nat;unfold eH;rw[zk]at K;have d:((W.held.filter (td k)).map (Prod.snd∘λp=>(p.addr,p.size)))=(W.held.filter (td k)).map (·.size):=rfl;rw[d]at K;rw[K,zk];unfold VD;rw[Dr];rfl
theorem ξ (h:WI W)(hk:W.bT[k]?=some A):Vf A*256=eH (yN k) W.held+eH (Vg k) W.held+Ue A+QN A:=by
 have ga:=h.ga k A hk;have u:eH (yN k) W.held+eH (Vg k) W.held=eH (λp=>p.k==k && !decide (p.cls<0)) W.held:=by
  refine D9 W.held λp _=>?_;unfold yN Vg;cases(p.k==k)<;>cases decide (p.cls<0)<;>cases p.dF<;>simp
 rw[u,GJ A.tb.length (λp=>p.k==k && !decide (p.cls<0)) W.held λp e d=>Lg h hk e (by simp at d;exact d.1) (by simp at d;omega)];unfold Vf Ue QN;rw[U9 (λc a=>Q6 a*c.size) A.tb A.cB ga.lc,U9 (λc a=>a.length*c.tail) A.tb A.cB ga.lc,U9 (λc a=>a.length*c.aF) A.tb A.cB ga.lc];rw[←VR,←VR];have key:∀j∈List.range A.tb.length,wT (λc a=>a.length*c.aF) A.tb A.cB j*256=eH (λp=>(p.k==k && !decide (p.cls<0))&&p.cls==(j:Int)) W.held+wT (λc a=>Q6 a*c.size) A.tb A.cB j+wT (λc a=>a.length*c.tail) A.tb A.cB j:=by
  intro j hj;obtain⟨c,a,t,b,x⟩:=ga.cl (zQ.1 hj);have g:=ga.cB j c a b;rw[yU b.1 b.2,yU b.1 b.2,yU b.1 b.2];have i:eH (λp=>(p.k==k && !decide (p.cls<0))&&p.cls==(j:Int)) W.held=(qR c a).length*c.size:=by
   have m:W.held.filter (λp=>(p.k==k && !decide (p.cls<0))&&p.cls==(j:Int))=W.held.filter λp=>p.k==k&&p.cls==(j:Int):=by
    apply yE;intro p _;by_cases hpc:p.cls=(j:Int)
    ·rw[hpc];have:decide ((j:Int)<0)=false:=zg O;rw[this];simp
    ·have:(p.cls==(j:Int))=false:=by simpa using hpc
     rw[this];simp
   rw[Nh (c:=c.size) λp e d=>Lp h hk b.1 e (by simp at d;exact⟨d.1.1,d.2⟩),m];have:=(R7 h hk b).length_eq;rw[zX]at this;rw[this]
  rw[i,xm];have s:=Whs g;have w:=bY.sL c;have r:c.aF*256=c.n*c.size+c.tail:=by unfold bY.tail;omega
  rw[r,Nat.mul_add,←xm,←s,zc];omega
 rw[Dr]
 congr 1
 exact ze key
def uM (c:bY)(ss:List cH):List Nat:=ss.flatMap λs=>(List.range c.aF).map (s.st + ·)
theorem WoC (c:bY)(ss:List cH):(uM c ss).length=ss.length*c.aF:=by
 induction ss with
 | nil=>simp[uM]
 | cons s ss ih=>
  have e:uM c (s::ss)=(List.range c.aF).map (s.st + ·)++uM c ss:=rfl;rw[e,zK,ih];simp[zc];omega
theorem Ia {c:bY}{ss:List cH}{p:Nat}:p∈uM c ss↔wa c ss p:=by
 simp only[uM,tv,zC,zQ,wa];constructor
 ·rintro⟨s,hs,i,hi,rfl⟩;exact⟨s,hs,O,O⟩
 ·rintro⟨s,hs,h1,h2⟩;exact⟨s,hs,p-s.st,O,O⟩
theorem WhV {c:bY}{ss:List cH}(h:ss.Pairwise λa b=>a.st+c.aF<=b.st):(uM c ss).Nodup:=by
 induction ss with
 | nil=>exact uE
 | cons s ss ih=>
  have g:=pB.1 h;have e:uM c (s::ss)=(List.range c.aF).map (s.st + ·)++uM c ss:=rfl;rw[e,qQ];refine⟨?_,ih g.2,λa r b m e=>?_⟩
  ·exact List.Pairwise.map (R:=(· ≠ ·)) _ (λa b d e=>d O) Am
  ·subst e;obtain⟨i,p,rfl⟩:=zC.1 r;obtain⟨t,j,w,u⟩:=Ia.1 m;have:=g.1 t j;have:=zQ.1 p;omega
def wh (l:List (Nat×Nat)):List Nat:=l.flatMap λr=>(List.range r.2).map (r.1 + ·)
theorem WnT (l:List (Nat×Nat)):(wh l).length=(l.map (·.2)).sum:=by
 induction l with
 | nil=>rfl
 | cons r l ih=>
  have e:wh (r::l)=(List.range r.2).map (r.1 + ·)++wh l:=rfl;rw[e,zK,ih];simp
theorem DZ {l:List (Nat×Nat)}{p:Nat}:p∈wh l↔jG l p:=by
 simp only[wh,tv,zC,zQ,jG];constructor
 ·rintro⟨s,hs,i,hi,rfl⟩;exact⟨s,hs,O,O⟩
 ·rintro⟨s,hs,h1,h2⟩;exact⟨s,hs,p-s.1,O,O⟩
theorem OY {l:List (Nat×Nat)}(h:l.Pairwise λa b=>a.1+a.2<=b.1\/b.1+b.2<=a.1):(wh l).Nodup:=by
 induction l with
 | nil=>exact uE
 | cons s ss ih=>
  have g:=pB.1 h;have e:wh (s::ss)=(List.range s.2).map (s.1 + ·)++wh ss:=rfl;rw[e,qQ];refine⟨?_,ih g.2,λa r b m e=>?_⟩
  ·exact List.Pairwise.map (R:=(· ≠ ·)) _ (λa b d e=>d O) Am
  ·subst e;obtain⟨i,p,rfl⟩:=zC.1 r;obtain⟨t,j,w,u⟩:=DZ.1 m;have:=g.1 t j;have:=zQ.1 p;omega
theorem JF {n:Nat}{l:List Nat}(hn:l.Nodup)(hl:∀x∈l,x<n){f:Nat->Bool}(hf:∀p,p<n->(f p=true↔p∈l)):(List.range n).countP f=l.length:=by
 rw[Bp];refine List.Perm.length_eq ?_;rw[vJ (List.nodup_range.filter _) hn];intro x;rw[zF,zQ];exact⟨λ⟨a,b⟩=>(hf x a).1 b,λd=>⟨hl x d,(hf x (hl x d)).2 d⟩⟩
theorem MV (ga:GA A):Vf A+VD A+jH A.n A.S=(List.range A.n).countP λ(p:Nat)=>V7 A (p:Int):=by
 have key:∀m,m<=A.tb.length->(List.range A.n).countP (λp=>A.ow p != 0&&decide (A.ow p<=m))=((List.range m).map (wT (λc d=>d.length*c.aF) A.tb A.cB)).sum:=by
  intro m
  induction m with
  | zero=>
   intro _;simp
  | succ m ih=>
   intro hm;rw[mD,zy,uv,←ih O,List.map_singleton,List.sum_singleton];obtain⟨c,d,t,g,_⟩:=ga.cl (k:=m) O;have z:=ga.cB m c d g;rw[yU g.1 g.2,←WoC c d,←JF (n:=A.n) (WhV z.uI) (λx b=>by
    obtain⟨s,j,a,e⟩:=Ia.1 b;exact ga.pg.lt (by rw[(ga.used g j a e).1];omega)) (f:=λp=>A.ow p==m+1) (λp _=>by rw[Ia,←ga.ow m c d g p];simp)]
   symm
   apply Go.Bu.iM;intro p _;by_cases a:A.ow p=m+1
   ·simp[a]
   ·by_cases e:A.ow p<=m
    ·have:(A.ow p==m+1)=false:=by simpa using a
     have u:decide (A.ow p<=m+1)=true:=by simp;omega
     simp[this,e,u]
    ·have:(A.ow p==m+1)=false:=by simpa using a
     have u:¬A.ow p<=m+1:=by omega
     simp[this,e,u]
 have G:=key A.tb.length (zD _);have L:Vf A=(List.range A.n).countP (λp=>A.ow p != 0&&decide (A.ow p<=A.tb.length)):=by
  rw[G];unfold Vf;rw[U9 (λc d=>d.length*c.aF) A.tb A.cB ga.lc]
 have B:VD A=(List.range A.n).countP (λp=>A.ow p==41):=by
  unfold VD;rw[←WnT,JF (OY ga.kM) (λx b=>by
   obtain⟨r,J,a,e⟩:=DZ.1 b;exact ga.pg.lt (by rw[(ga.kP J a e).1];omega)) (f:=λp=>A.ow p==41) (λp _=>by rw[DZ,←ga.kB];simp)]
 have H:=ga.tb;have C:(List.range A.n).countP (λp=>A.ow p != 0&&decide (A.ow p<=A.tb.length))+(List.range A.n).countP (λp=>A.ow p==41)=(List.range A.n).countP (λp=>A.ow p != 0):=by
  apply Go.Bu.iM;intro p _;rcases ga.tE p with a|a
  ·have:¬A.ow p<=A.tb.length:=by omega
   simp[a];omega
  ·have:(A.ow p==41)=false:=by simp;omega
   simp[this,a]
 have D:(List.range A.n).countP (λp=>A.ow p != 0)+(List.range A.n).countP A.S=(List.range A.n).countP λ(p:Nat)=>V7 A (p:Int):=by
  apply Go.Bu.iM;intro p _;have w:=ga.pg.us p;have j:=ga.pg.fr p;have E:V7 A (p:Int)=decide (A.f p≠0):=by
   unfold V7 AR.f gf;rw[zT (show(0:Int)<=p by omega),xT,dE]
  rw[E];have F:=ga.pg.le p;by_cases h0:A.f p=0
  ·have:A.ow p=0:=Classical.byContradiction λy=>by have:=w.2 y;omega
   have i:A.S p=false:=by apply qd.2;intro b;have:=j.1 b;omega
   simp[h0,this,i]
  ·by_cases a:A.f p=1
   ·have K:=w.1 a;have i:A.S p=false:=by apply qd.2;intro b;have:=j.1 b;omega
    simp[a,K,i]
   ·have:A.ow p=0:=Classical.byContradiction λy=>a (w.2 y);have i:A.S p=true:=j.2 O;simp[h0,this,i]
 unfold jH;rw[L,B,C,D]
theorem Iu (ga:GA A):VD A<=1024:=by
 have b:=MV ga;have a:(List.range A.n).countP (λ(p:Nat)=>V7 A (p:Int))<=A.n:=by
  refine zJ xS ?_;rw[sH];exact zD _
 have:=ga.pg.n2;omega
end Go.Ar
namespace Go.Ar
open Go Go.Vc Go.Proofs
open Go.Vc (bW dG cR)
open Go.Bu (jH)
variable {σ v w w':Hp}{F P Q X:Rg}{L:dQ}{H H':Hw}{held:List Pc}{s0:Sp}{t n:Nat}{g:Th}{nb sb m:Nat}{x:List Int}
def px (b:Bk):Int:=if 0<=b.2.2.1 then b.2.1 else 0
def U7 (l:List (Int×Bk)):Int:=(l.map λe=>px e.2).sum
def KF (H:Hw):Nat:=(H.bR.map λg=>Qm H.tb g.ls).sum
def ZW (f:AR->Nat)(H:Hw):Nat:=(H.bT.map f).sum
def Qf (A:AR):Nat:=jH A.n A.S
theorem M5 {α:Type}(f:α->Int):∀{l:List (Int×α)} {n:Int} {x:α},(l.map (·.1)).Nodup->(n,x)∈l->(l.map λe=>f e.2).sum=f x+((l.filter λy=>!(y.1==n)).map λe=>f e.2).sum
 | [],_,_,_,h=>by simp at h
 | y::l,n,x,hn,h=>by
  simp only[zH,zr]at hn;rcases zR.1 h with h1|h1
  ·subst h1;have:l.filter (λy=>!(y.1==n))=l:=by
    rw[rp];intro z hz;have:z.1≠n:=λe=>hn.1 (zC.2 ⟨z,hz,e⟩);simpa using this
   rw[wH aA,this];simp
  ·have a:y.1≠n:=λe=>hn.1 (zC.2 ⟨_,h1,e.symm⟩);rw[wE (by simpa using a)];simp only[zH,zS];rw[M5 f hn.2 h1];omega
theorem UO {α:Type}{f:α->Int}{c:Int}:∀{l:List α},(∀e∈l,0<=f e/\f e<=c)->0<=(l.map f).sum/\(l.map f).sum<=l.length*c
 | [],_=>by simp
 | a::l,h=>by
  have h1:=h a nE;have d:=UO λe b=>h e (mJ _ b);simp only[zH,zS,zN,Int.natCast_add,Int.add_mul];omega
theorem DM (hi:HI H held s0){e:Int×Bk}(he:e∈H.live):0<=px e.2/\px e.2<=270000:=by
 have:=hi.jO he;unfold px;split<;>omega
theorem LU {α:Type}(f:α->Nat){l:List α}{i:Nat}{a:α}(h:l[i]?=some a):((l.take (i+1)).map f).sum=((l.take i).map f).sum+f a:=by
 rw[zl,h];simp
theorem Wm0 {α:Type}{f:α->Nat}{c:Nat}{l:List α}(h:∀a∈l,f a<=c):(l.map f).sum<=l.length*c:=by
 induction l with
 | nil=>simp
 | cons a l ih=>
  have g:=h a nE;have d:=ih λe b=>h e (mJ _ b);simp only[zH,zS,zN,zc];omega
theorem RR {α:Type}{f:α->Nat}{c:Nat}{l:List α}(h:∀a∈l,f a<=c)(i:Nat):((l.take i).map f).sum<=i*c:=
 zJ (Wm0 λa b=>h a (qt b)) (pf c (by rw[zP];omega))
def Qz:List Value:=[.int .i64 0,.int .i64 0,.int .i64 0,.int .i64 0,.int .i64 0,.int .i64 0,.int .i64 0,.int .i64 0,.int .i64 0,.int .i64 0,.int .i64 0]
structure oJ (σ:Hp) (nb sb:Nat) (v:Hp) (x:List Int):Prop where
 e:bO σ v
 n:bX v nb Qz
 s:bX v sb (x.map (Value.int .i64))
 h1:σ.size<=nb
 h2:σ.size<=sb
 h3:nb≠sb
 hl:x.length=11
theorem oJ.fr (h:oJ σ nb sb v x)(e:bO v w):oJ σ nb sb w x:=⟨h.e.trans e,e.bV h.n id,e.bV h.s id,h.h1,h.h2,h.h3,h.hl⟩
theorem oJ.own (h:oJ σ nb sb v x)(o:QJ v w m)(h4:v.size<=m\/m≠nb/\m≠sb/\σ.size<=m):oJ σ nb sb w x:=by
 have j:=h.n.lt;have d:=h.s.lt;have b:=h.e.1;exact⟨Ext.fresh h.e o.ext λi (g:i=m)=>O,o.ext.bV h.n λ(a:nb=m)=>O,o.ext.bV h.s λ(a:sb=m)=>O,h.h1,h.h2,h.h3,h.hl⟩
theorem oJ.rd (h:oJ σ nb sb v x){i:Nat}{y:Int}(hy:x[i]?=some y){K:Int->Prop}(hK:K y):fL .i64 (Addr.add ⟨sb,0,none⟩ i) v K:=
 h.s.rI (by rw[zI,zi,hy];rfl) hK
theorem oJ.st (h:oJ σ nb sb v x){i:Nat}{y:Int}(hi:i<11){K:aP}(hK:∀w,Ext (· = sb) v w->oJ σ nb sb w (x.set i y)->K w):cY (Addr.add ⟨sb,0,none⟩ i) (.int .i64 y) v K:=by
 have hl:=h.hl;refine h.s.s1 (by rw[zX];omega) λw o b=>hK w o.ext ⟨Ext.fresh h.e o.ext λi (hi:i=sb)=>by have:=h.h2;omega,o.ext.bV h.n λ(a:nb=sb)=>h.h3 a,?_,h.h1,h.h2,h.h3,by rw[sx,hl]⟩;rw[zI,←wQ]at b;exact b
theorem WpR {K:eT [.ad]}{body:eT [.ad]->Prop}(P:Addr->Hp->Prop)(h1:∀r w,P r w->K r w)(h2:∀J:eT [.ad],(∀r w,P r w->J r w)->body J):Jn [.ad] K body:=Jn.intro (h2 K h1)
theorem iK.uO {s:Sl}(h:iK s [] σ F):s.len=0:=by have:=h.len;simpa using this
theorem HH.hnS (h:HH σ F L H){x:eD}(hx:L.ts[t]?=some x)(hg:H.bR[t]?=some g):iK x.h g.bP σ F:=by
 obtain⟨G,d,a⟩:=h.sep.get (.hn t);simp only[CH,hx,hg,sT]at a;exact dS.mono (iK.loc _ _) a λb _ a=>d b a
theorem HH.caS (h:HH σ F L H){x:eD}(hx:L.ts[t]?=some x)(hg:H.bR[t]?=some g):eB σ F x.c H.tb H.cf.dD g.ls:=by
 obtain⟨G,d,a⟩:=h.sep.get (.ca t);simp only[CH,hx,hg,uh]at a;exact dS.mono eB.loc a λb _ a=>d b a
theorem Fi {A:AR}(ga:GA A):Qf A<=1024:=by
 have a:Qf A<=A.n:=by
  unfold Qf jH;refine zJ xS ?_;rw[sH];exact zD _
 have:=ga.pg.n2;omega
theorem oJ.Ro (h:oJ σ nb sb v x){i:Nat}{y:Int}(hy:x[i]?=some y){K:Int->Prop}(hK:K y):gW (λm=>bO v m) bN (Addr.add ⟨sb,0,none⟩ i) K:=
 ⟨y,λm a=>by rw[add_lit,(Ext.bV a h.s id).cell,zI,zi,hy];rfl,hK⟩
theorem bX.rH {b i:Nat}{cs:List Value}{c:CK}{y:c.T}(hb:bX v b cs)(hc:cs[i]?=some (c.v y)){K:c.T->Prop}(hK:K y):gW (λm=>bO v m) c (Addr.add ⟨b,0,none⟩ i) K:=
 ⟨y,λm a=>by rw[add_lit,(Ext.bV a hb id).cell,zI];exact hc,hK⟩
theorem ve {b:Nat}(hb:bX v b Qz)(a0 a1 a2 a3 a4 a5 a6 a7 a8 a9 a10:Int){K:aP}(hK:∀w,Ext (· = b) v w->bX w b ([a0,a1,a2,a3,a4,a5,a6,a7,a8,a9,a10].map (Value.int .i64))->K w) :
 cY (Addr.add ⟨b,0,none⟩ 0) (.int .i64 a0) v λv57=>cY (Addr.add ⟨b,0,none⟩ 1) (.int .i64 a1) v57 λv58=>cY (Addr.add ⟨b,0,none⟩ 2) (.int .i64 a2) v58 λv59=>cY (Addr.add ⟨b,0,none⟩ 3) (.int .i64 a3) v59 λv60=>
 cY (Addr.add ⟨b,0,none⟩ 4) (.int .i64 a4) v60 λv61=>cY (Addr.add ⟨b,0,none⟩ 5) (.int .i64 a5) v61 λv62=>cY (Addr.add ⟨b,0,none⟩ 6) (.int .i64 a6) v62 λv63=>cY (Addr.add ⟨b,0,none⟩ 7) (.int .i64 a7) v63 λv64=>
 cY (Addr.add ⟨b,0,none⟩ 8) (.int .i64 a8) v64 λv65=>cY (Addr.add ⟨b,0,none⟩ 9) (.int .i64 a9) v65 λv66=>cY (Addr.add ⟨b,0,none⟩ 10) (.int .i64 a10) v66 K:=by
 unfold Qz at hb;refine hb.s1 aA λB o1 s=>s.s1 aA λz o2 x=>x.s1 aA λv3 o3 i=>i.s1 aA λF o4 p=>p.s1 aA λG o5 m=>m.s1 aA λE o6 y=>y.s1 aA λA o7 u=>u.s1 aA λC o8 r=>r.s1 aA λD o9 j=>j.s1 aA λv10 fR d=>d.s1 aA λg a e=>?_;exact hK g ((((((((((o1.ext.trans o2.ext).trans o3.ext).trans o4.ext).trans o5.ext).trans o6.ext).trans o7.ext).trans o8.ext).trans o9.ext).trans fR.ext).trans a.ext) e
theorem oJ.fin {a0 a1 a2 a3 a4 a5 a6 a7 a8 a9 a10:Int}(B:oJ σ nb sb v [a0,a1,a2,a3,a4,a5,a6,a7,a8,a9,a10]){R:Int->Int->Int->Int->Int->Int->Int->Int->Int->Int->Int->Hp->Prop}(hR:∀w,bO σ w->R a0 a1 a2 a3 a4 a5 a6 a7 a8 a9 a10 w) :
 fL .i64 (Addr.add ⟨sb,0,none⟩ 0) v λt0=>fL .i64 (Addr.add ⟨sb,0,none⟩ 1) v λt1=>fL .i64 (Addr.add ⟨sb,0,none⟩ 2) v λt2=>fL .i64 (Addr.add ⟨sb,0,none⟩ 3) v λt3=>fL .i64 (Addr.add ⟨sb,0,none⟩ 4) v λt4=>
 fL .i64 (Addr.add ⟨sb,0,none⟩ 5) v λt5=>fL .i64 (Addr.add ⟨sb,0,none⟩ 6) v λt6=>fL .i64 (Addr.add ⟨sb,0,none⟩ 7) v λt7=>fL .i64 (Addr.add ⟨sb,0,none⟩ 8) v λt8=>fL .i64 (Addr.add ⟨sb,0,none⟩ 9) v λt9=>fL .i64 (Addr.add ⟨sb,0,none⟩ 10) v λt10=>
 cY (Addr.add ⟨nb,0,none⟩ 0) (.int .i64 t0) v λv57=>cY (Addr.add ⟨nb,0,none⟩ 1) (.int .i64 t1) v57 λv58=>cY (Addr.add ⟨nb,0,none⟩ 2) (.int .i64 t2) v58 λv59=>cY (Addr.add ⟨nb,0,none⟩ 3) (.int .i64 t3) v59 λv60=>
 cY (Addr.add ⟨nb,0,none⟩ 4) (.int .i64 t4) v60 λv61=>cY (Addr.add ⟨nb,0,none⟩ 5) (.int .i64 t5) v61 λv62=>cY (Addr.add ⟨nb,0,none⟩ 6) (.int .i64 t6) v62 λv63=>cY (Addr.add ⟨nb,0,none⟩ 7) (.int .i64 t7) v63 λv64=>
 cY (Addr.add ⟨nb,0,none⟩ 8) (.int .i64 t8) v64 λv65=>cY (Addr.add ⟨nb,0,none⟩ 9) (.int .i64 t9) v65 λv66=>cY (Addr.add ⟨nb,0,none⟩ 10) (.int .i64 t10) v66 λv67=>
 fL .i64 (Addr.add ⟨nb,0,none⟩ 0) v67 λt0=>fL .i64 (Addr.add ⟨nb,0,none⟩ 1) v67 λt1=>fL .i64 (Addr.add ⟨nb,0,none⟩ 2) v67 λt2=>fL .i64 (Addr.add ⟨nb,0,none⟩ 3) v67 λt3=>fL .i64 (Addr.add ⟨nb,0,none⟩ 4) v67 λt4=>
 fL .i64 (Addr.add ⟨nb,0,none⟩ 5) v67 λt5=>fL .i64 (Addr.add ⟨nb,0,none⟩ 6) v67 λt6=>fL .i64 (Addr.add ⟨nb,0,none⟩ 7) v67 λt7=>fL .i64 (Addr.add ⟨nb,0,none⟩ 8) v67 λt8=>fL .i64 (Addr.add ⟨nb,0,none⟩ 9) v67 λt9=>fL .i64 (Addr.add ⟨nb,0,none⟩ 10) v67 λt10=>
 R t0 t1 t2 t3 t4 t5 t6 t7 t8 t9 t10 v67:=by
 refine B.rd rfl (B.rd rfl (B.rd rfl (B.rd rfl (B.rd rfl (B.rd rfl (B.rd rfl (B.rd rfl (B.rd rfl (B.rd rfl (B.rd rfl (ve B.n a0 a1 a2 a3 a4 a5 a6 a7 a8 a9 a10 λw e b=>?_)))))))))));refine b.rI rfl (b.rI rfl (b.rI rfl (b.rI rfl (b.rI rfl (b.rI rfl (b.rI rfl (b.rI rfl (b.rI rfl (b.rI rfl (b.rI rfl (hR w ?_)))))))))));exact Ext.fresh B.e e λi (a:i=nb)=>by have:=B.h1;omega
theorem HH.EW (h:HH σ F L H){x:eD}(hx:L.ts[t]?=some x)(hg:H.bR[t]?=some g){ty:Nat}{K:Addr->Hp->Prop}(hK:∀v,bO σ v->σ.size<v.size->bX v σ.size (lG (x,g))->K ⟨σ.size,0,none⟩ v) :
 Ix L.cL.a L.cL.len (t:Int) 3 λa58=>fY (a58.add 0) σ λt59=>kG (a58.add 1) σ λt591=>Al (a58.add 2) σ λt592=>
  Nw (.cells #[.pointer none,.slice none 0 0,.nilIface] ty (0,0)) σ λn7 v17=>O1 t592<|cY (n7.add 0) (.pointer t59) v17 λv18=>cY (n7.add 1) (.slice t591.a t591.len t591.cap) v18 λv19=>cY (n7.add 2) t592 v19 λv20=>K n7 v20:=by
 obtain⟨b,o,r,M⟩:=UB h.mA hx hg (d:=0) O rfl;obtain⟨R,o1,j,B⟩:=UB h.mA hx hg (d:=1) O rfl;obtain⟨s,o2,e,G⟩:=UB h.mA hx hg (d:=2) O rfl;rw[r]at j e;cases j;cases e;have P:=h.jX;have N:=(cQ.1 hg).1;rw[r];refine ix O O ?_;rw[add_lit,show o+(t:Int).toNat*3=o+3*t by omega];refine wL (by rw[add_lit,ug];exact M) (rm (by rw[add_lit,ug];exact B) ⟨_,by rw[add_lit,ug];exact G,?_⟩);refine nw (cs:=[.pointer none,.slice none 0 0,.nilIface]) λS J y s=>?_;have z:∀{A:Prop},A->O1 (rf g.ph) A:=λ{A} u=>by
  cases g.ph with
  | none=>exact u
  | some p=>cases p<;>exact u
 refine z (s.s1 aA λv3 o3 w=>w.s1 aA λQ o4 D=>D.s1 aA λE o5 C=>?_);exact hK E (Ext.fresh (Ext.fresh (Ext.fresh y o3.ext λi m=>O) o4.ext λi m=>O) o5.ext λi m=>O) (by have:=o3.1;have:=o4.1;have:=o5.1;omega) C
structure Bw (H:Hw):Prop where
 cache:KF H<=20971520
 dF:ZW Kd H<=160000000000
 room:ZW Ue H<=160000000000
 No:ZW QN H<=160000000000
 I6:ZW Vf H<=160000000000
 runs:ZW VD H<=4096
 free:ZW Qf H<=4096
set_option maxRecDepth 16000 in
theorem Qv (h:HH σ F L H)(hi:HI H held s0)(hh:∀g∈H.bR,g.bP=[]){R:Int->Int->Int->Int->Int->Int->Int->Int->Int->Int->Int->Hp->Prop}
 (hR:∀σ',bO σ σ'->Bw H->R (U7 H.live) (KF H:Nat) 0 (ZW Kd H:Nat) (ZW Ue H:Nat) (ZW QN H:Nat) (ZW VD H*256:Nat) (ZW Vf H:Nat) (ZW Qf H:Nat) (Qy H.sp.st:Nat) (H.sp.st.count 2:Nat) σ'):Ww.c (aW L.p) σ R:=by
 refine Ww.o ?_;refine nw (cs:=Qz) λv hz e hb=>KN (h.bK e) (cG rfl ?_);have hv:=h.bK e;generalize hm0:((Qy H.sp.st:Nat):Int)=M at hR;generalize hd0:((H.sp.st.count 2:Nat):Int)=D at hR;refine WpR (λs w=>∃d,s=⟨d,0,none⟩/\oJ σ σ.size d w [0,0,0,0,0,0,0,0,0,M,D]) (λs w ⟨d,hs,B⟩=>?_) λJ hJ=>?_
 ·subst hs;have hw:=h.bK B.e;have B0:=B;refine aG (hw.hd.rM rfl ?_);have hml:=hw.mR;have hll:=hi.jE;refine Az (c:=.ag 4) hml (λ(b:List (Int×Bk)) u=>∃z:Int,oJ σ σ.size d u [z,0,0,0,0,0,0,0,0,M,D]/\(b.map (·.1)).Nodup/\(∀y∈b,y∈H.live)/\0<=z/\z+(b.map λe=>px e.2).sum=U7 H.live) (λu hz eu=>⟨0,B.fr eu,hml.nodup,λy Z=>Z,O,by rw[Int.zero_add];rfl⟩) (λu ⟨z,B,_,_,_,hz⟩=>?_) ?_
  ·have hz':z=U7 H.live:=by simpa using hz
   subst hz';have hu:=h.bK B.e;have ht2:=h.s.t2;refine aG (hu.hd.rS rfl ?_);refine ZV (a:=bN) (λ(i:Int) u=>∃k:Nat,i=k/\k<=H.bR.length/\oJ σ σ.size d u [U7 H.live,(((H.bR.take k).map λg=>Qm H.tb g.ls).sum:Nat),0,0,0,0,0,0,0,M,D]/\((H.bR.take k).map λg=>Qm H.tb g.ls).sum<=k*5242880) (λi _=>H.bR.length-i.toNat) ⟨0,rfl,O,by simpa using B,by simp⟩ ?_;rintro(i:Int) u1 ⟨k,rfl,hk,B,hsum⟩;have h1:=h.bK B.e;have htl:=h1.jX;refine cI (λQ=>?_) λhge=>?_
   ·have W:k<H.bR.length:=by simp only at Q;omega
    obtain⟨x,g,N,V⟩:=h1.th W;have hsb:=B.s.lt;refine h1.EW N V λv1 e1 hlt1 b1=>?_;have B1:=B.fr e1;have h2:=h1.bK e1;have hca:=h2.caS N V;have hby:=L1 hca hca.M6;have hnl:=h2.hnS N V;rw[hh g (zE V)]at hnl;refine⟨λm=>bO v1 m,Ext.refl _ _,B1.Ro rfl (bX.rH (c:=.p) (y:=some ⟨x.c.p,0,none⟩) b1 rfl (E8 hca λv2 e2=>⟨e2,?_⟩))⟩;have B2:=B1.fr e2;have b2:=e2.bV b1 id;have hs:=LU (λg=>Qm H.tb g.ls) V;refine cA (m:=((H.bR.take (k+1)).map λg=>Qm H.tb g.ls).sum) (by rw[hs];simp) (by rw[hs];omega) (B2.st O λv3 e3 B3=>?_);have b3:=e3.bV b2 (λ(N:u1.size=d)=>O);refine b3.rS rfl (ZV (a:=bN) (λ(c:Int) w=>w=v3/\c=0) (λ_ _=>0) ⟨rfl,rfl⟩ ?_);rintro(c:Int) w ⟨rfl,rfl⟩;refine cI (λhl=>?_) λ_=>cA (m:=k+1) O O ⟨⟨k+1,rfl,O,B3,by rw[hs];omega⟩,O⟩;have:=hnl.uO;simp only at hl;omega
   ·have aa:k=H.bR.length:=by simp only at hge;omega
    subst aa;rw[zo]at B hsum;have hsum':KF H<=20971520:=by unfold KF;omega
    have ha2:=h.s.a2;refine aG (h1.hd.rS rfl ?_);have G:∀A∈H.bT,GA A:=λA j=>by obtain⟨k,hk⟩:=zM j;exact hi.wi.ga k A hk
    let P (f:AR->Nat) (k:Nat):Nat:=((H.bT.take k).map f).sum
    have hP:∀(f:AR->Nat) {k:Nat} {A:AR},H.bT[k]?=some A->P f (k+1)=P f k+f A:=λf _ _ j=>LU f j;have U:∀{f:AR->Nat} {c:Nat},(∀A∈H.bT,f A<=c)->∀k,P f k<=k*c:=λhf k=>RR hf k;have C:∀f,P f H.bT.length=ZW f H:=λf=>by show((H.bT.take H.bT.length).map f).sum=_;rw[zo];rfl
    have E:∀f,P f 0=0:=λf=>by show((H.bT.take 0).map f).sum=0;simp
    clear_value P
    refine ZV (a:=bN) (λ(i:Int) u=>∃k:Nat,i=k/\k<=H.bT.length/\oJ σ σ.size d u [U7 H.live,(KF H:Nat),0,(P Kd k:Nat),(P Ue k:Nat),(P QN k:Nat),(P VD k*256:Nat),(P Vf k:Nat),(P Qf k:Nat),M,D]/\P Kd k<=k*40000000000/\P Ue k<=k*40000000000/\P QN k<=k*40000000000/\P Vf k<=k*40000000000) (λi _=>H.bT.length-i.toNat) ⟨0,rfl,O,?_⟩ ?_
    ·rw[E,E,E,E,E,E];exact⟨B,O,O,O,O⟩
    rintro(i:Int) u2 ⟨k,rfl,hk,B,l1,l2,l3,l4⟩;have h2:=h.bK B.e;have hal:=h2.lL;refine cI (λQ=>?_) λhge=>?_
    ·have W:k<H.bT.length:=by simp only at Q;omega
     have j:H.bT[k]?=some H.bT[k]:=cM _;generalize H.bT[k]=A at j;have ga:=G A (zE j);have r5:=Iu ga;have r6:=Fi ga;obtain⟨Y,Z,_,hAY⟩:=h2.ar j;refine h2.rA Z (Wev hAY O λv2 e2 ⟨r1,r2,r3,r4⟩=>?_);have B2:=B.fr e2;have s1:=hP Kd j;have s2:=hP Ue j;have s3:=hP QN j;have s4:=hP Vf j;have s5:=hP VD j;have s6:=hP Qf j;have l5:=U (f:=VD) (λA j=>Iu (G A j)) k;have l6:=U (f:=Qf) (λA j=>Fi (G A j)) k;have hfr:((jH A.n A.S:Nat):Int)=(Qf A:Nat):=rfl;refine B2.rd rfl (cA (m:=P Kd (k+1)) (by rw[s1];simp) O (B2.rd rfl (cA (m:=P Ue (k+1)) (by rw[s2];simp) O (B2.rd rfl (cA (m:=P QN (k+1)) (by rw[s3];simp) O ?_)))));refine B2.st O λv3 _ B3=>B3.st O λv4 _ B4=>B4.st O λv5 _ B5=>?_;refine B5.rd rfl (cA (m:=P Vf (k+1)) (by rw[s4];simp) O (B5.rd rfl (cA (m:=VD A*256) aA O (cA (m:=P VD (k+1)*256) (by rw[s5,zc];simp) O (B5.rd rfl (cA (m:=P Qf (k+1)) (by rw[s6,hfr];simp) O ?_))))));refine B5.st O λv6 _ B6=>B6.st O λv7 _ B7=>B7.st O λv8 _ B8=>?_;exact cA (m:=k+1) O O ⟨⟨k+1,rfl,O,B8,O,O,O,O⟩,O⟩
    ·have aa:k=H.bT.length:=by simp only at hge;omega
     subst aa;have l5:=U (f:=VD) (λA j=>Iu (G A j)) H.bT.length;have l6:=U (f:=Qf) (λA j=>Fi (G A j)) H.bT.length;rw[C]at l1 l2 l3 l4 l5 l6;rw[C,C,C,C,C,C]at B;exact B.fin λw e=>hR w e ⟨hsum',O,O,O,O,O,O⟩
  ·rintro(b:List (Int×Bk)) n (x:Bk) w1 w2 J1 ⟨z,B,hn,hin,hz0,hz⟩ N ho Q hJ1;have hsb:=B0.s.lt;have hnb:=B0.n.lt;have hz2:=ho.1;have hlm:L.lm<σ.size:=h.mR.lt;have B2:=B.own ho (.inr ⟨O,O,O⟩);have hl:=hin _ N;have hdel:=M5 px hn N;have K:∀y∈b.filter λy=>!(y.1==n),y∈H.live:=λy Z=>hin y (zF.1 Z).1;have hn':((b.filter λy=>!(y.1==n)).map (·.1)).Nodup:=hn.sublist (List.filter_sublist.map _);have hrest:=(UO (f:=λe:Int×Bk=>px e.2) (c:=270000) λe he=>DM hi (K e he)).1;have hall:=(UO (l:=H.live) (f:=λe:Int×Bk=>px e.2) (c:=270000) λe he=>DM hi he).2;have hst:(H.live.map λe:Int×Bk=>px e.2).sum=U7 H.live:=rfl;have hx0:=DM hi hl;rw[hst]at hall;obtain⟨rs,hrs⟩:∃rs,((b.filter λy=>!(y.1==n)).map λe:Int×Bk=>px e.2).sum=rs:=⟨_,rfl⟩;have hdel':(b.map λe:Int×Bk=>px e.2).sum=px x+rs:=by rw[←hrs];exact hdel
   have hz':z+(b.map λe:Int×Bk=>px e.2).sum=U7 H.live:=hz;rw[hrs]at hrest;have V:∀y:Int,y+rs=U7 H.live->y+((b.filter λy=>!(y.1==n)).map λe:Int×Bk=>px e.2).sum=U7 H.live:=λy Z=>by rw[hrs];exact Z
   refine nw (cs:=[.int .i64 0,.int .i64 0,.int .i64 0,.int .i64 0]) λv2 hzv e2 b2=>b2.s1 aA λv3 o3 b3=>b3.s1 aA λv4 o4 b4=>b4.s1 aA λv5 o5 b5=>b5.s1 aA λv6 o6 b6=>?_;have e6:bO w2 v6:=Ext.fresh (Ext.fresh (Ext.fresh (Ext.fresh e2 o3.ext λi hi=>O) o4.ext λi hi=>O) o5.ext λi hi=>O) o6.ext λi hi=>by omega
   have B6:=B2.fr e6;refine b6.rI rfl (cI (λhpos=>B6.rd rfl (b6.rI rfl ?_)) λhneg=>?_)
   ·have hs:px x=x.2.1:=by unfold px;exact zB hpos
    have hx1:0<=x.2.1/\x.2.1<=270000:=by rw[←hs];exact hx0
    refine ar O O (B6.st O λv7 e7 B7=>hJ1 v7 ?_ ?_ ⟨z+x.2.1,B7,hn',K,O,V _ O⟩)
    ·rw[e7.2 _ (by have:=e6.1;omega) (λ(N:w.size=d)=>O),e6.2 _ O id]
    ·rw[e7.2 _ (by have:=e6.1;omega) (λ(N:L.lm=d)=>by have:=B6.h2;omega),e6.2 _ O id]
   ·have hs:px x=0:=by unfold px;exact zA hneg
    refine hJ1 v6 (e6.2 _ O id) (e6.2 _ O id) ⟨z,B6,hn',K,hz0,V _ O⟩
 ·have hS:dI v F L.hs H.sp:=hv.CL;have fin:∀w d,bO v w->bX w d Qz->v.size<=d->cY (Addr.add ⟨d,0,none⟩ 0) (.int .i64 0) w λv57=>cY (Addr.add ⟨d,0,none⟩ 1) (.int .i64 0) v57 λv58=>cY (Addr.add ⟨d,0,none⟩ 2) (.int .i64 0) v58 λv59=>cY (Addr.add ⟨d,0,none⟩ 3) (.int .i64 0) v59 λv60=>
   cY (Addr.add ⟨d,0,none⟩ 4) (.int .i64 0) v60 λv61=>cY (Addr.add ⟨d,0,none⟩ 5) (.int .i64 0) v61 λv62=>cY (Addr.add ⟨d,0,none⟩ 6) (.int .i64 0) v62 λv63=>cY (Addr.add ⟨d,0,none⟩ 7) (.int .i64 0) v63 λv64=>
   cY (Addr.add ⟨d,0,none⟩ 8) (.int .i64 0) v64 λv65=>cY (Addr.add ⟨d,0,none⟩ 9) (.int .i64 M) v65 λv66=>cY (Addr.add ⟨d,0,none⟩ 10) (.int .i64 D) v66 λv67=>J ⟨d,0,none⟩ v67:=λw d r X hsb=>by
   have hv1:=hb.lt;refine ve X 0 0 0 0 0 0 0 0 0 M D λw' e' b'=>hJ _ w' ⟨d,rfl,Ext.fresh (e.trans r) e' (λi (hi:i=d)=>O),e'.bV (r.bV hb id) (λ(N:σ.size=d)=>O),b',zD _,O,O,rfl⟩
  refine⟨λm=>bO v m,Ext.refl _ _,aG (bX.rH (c:=.p) (y:=some ⟨L.hs,0,none⟩) hv.hd rfl (aG (bX.rH (c:=.p) (y:=some ⟨L.hs,0,none⟩) hv.hd rfl ⟨?_,?_⟩)))⟩
  ·refine L5 hS ⟨Ext.refl _ _,ET hS ⟨Ext.refl _ _,?_⟩,?_⟩
   ·rw[hm0,hd0];exact nw (cs:=Qz) λw hzw r X=>⟨r,fin w _ r X (zD _)⟩
   ·refine nw (cs:=Qz) λw hzw r X=>⟨r,ET (hv.bK r).CL ⟨r,?_⟩⟩;rw[hm0,hd0];exact fin w _ r X (zD _)
  ·refine nw (cs:=Qz) λw hzw r X=>⟨r,L5 (hv.bK r).CL ⟨r,ET (hv.bK r).CL ⟨r,?_⟩⟩⟩;rw[hm0,hd0];exact fin w _ r X (zD _)
end Go.Ar
namespace Go.Ar
open Go.Vc (bW dG cR)
def i63 (x:Int):Bool:=decide (x<=9223372036854775807)
def uq (H:Hw)(t:Nat):Ph->Bool
 | .take k=>decide (k<H.tb.length)&&(match Km (H.cls k) ((H.mG t).li k)with
  | (some y,_)=>i63 y
  | (none,_)=>true)
 | .cN k _=>decide (k<H.tb.length)&&(Z9 (H.eO t) (k:Int) != 0 || !(YN (H.eO t) (k:Int)).isEmpty)
 | .cP _ _=>true
 | .grow _ _=>true
 | .fill=>match (H.mG t).bP with
  | (k,x::xs)::_=>decide (k<H.tb.length)&&(i63 x&&decide (((H.mG t).li k).os.length+xs.length<=256))
  | _=>false
 | .eU m=>decide (Z7 (H.eO t) H.sp (m:Int) 1<=1000000)
 | .find x=>i63 x&&((bW H.live x).isSome&&decide (0<=x))
 | .put k _=>decide (k<H.tb.length) && !(H.mG t).bP.isEmpty
 | .back=>match (H.mG t).bP with
  | (_,xs)::_=>(xs.all λx=>i63 x&&decide (0<=YM H.bT x))&&decide (xs.length<=1000000)
  | _=>false
 | .dK _ a=>decide (0<=a)&&(decide (a.toNat<H.bT.length)&&H.bT.all λA=>A.runs.all λr=>decide (r.1<=1000000))
 | .drain=>true
theorem BW {x:Int}(h:i63 x=true):iX x:=by
 unfold i63 at h;unfold iX;exact qs h
theorem Wmg {H:Hw}{t:Nat}{p:Ph}(h:uq H t p=true):yv H t p:=by
 cases p with
 | take k=>
  simp only[uq,zG,zV]at h;refine⟨h.1,λy l u=>?_⟩;have e:=h.2;rw[u]at e;exact BW e
 | cN k w=>
  simp only[uq,zG,zV,rO]at h;refine⟨h.1,λi d=>?_⟩;rw[i,d]at h;simp at h
 | cP k w=>trivial
 | grow k w=>trivial
 | fill=>
  simp only[uq]at h;split at h
  ·rename_i k x xs r hh;simp only[zG,zV]at h;exact⟨k,x,xs,r,hh,h.1,BW h.2.1,h.2.2⟩
  ·cases h
 | eU m=>
  simp only[uq,zV]at h;exact h
 | find x=>
  simp only[uq,zG,zV]at h;exact⟨BW h.1,λj=>by rw[j]at h;simp at h,λb _=>h.2.2⟩
 | put k x=>
  simp only[uq,zG,zV]at h;exact⟨h.1,λd=>by rw[d]at h;simp at h⟩
 | back=>
  simp only[uq]at h;split at h
  ·rename_i k xs r hh;simp only[zG,zV,nD]at h;exact⟨k,xs,r,hh,λx g=>⟨BW (h.1 x g).1,(h.1 x g).2⟩,h.2⟩
  ·cases h
 | dK s a=>
  simp only[uq,zG,zV,nD]at h;exact⟨h.1,h.2.1,h.2.2⟩
 | drain=>trivial
def sR:Nat->Hw->Nat->Ph->Option (Hw×Int×Int)
 | 0,_,_,_=>none
 | n+1,H,t,p=>if uq H t p&&decide ((H.mG t).bP.length<=900)then(match (Wt H t p).2.1 with
  | none=>some (Q1 H t p,(Wt H t p).2.2.1,(Wt H t p).2.2.2)
  | some p'=>sR n (Q1 H t p) t p')else none
theorem MW:∀{n:Nat} {H:Hw} {t:Nat} {p:Ph} {r:Hw×Int×Int},sR n H t p=some r->∃m,jN m H t p r.1 r.2.1 r.2.2
 | 0,_,_,_,_,h=>by simp[sR]at h
 | n+1,H,t,p,r,h=>by
  rw[sR]at h;split at h
  ·rename_i hc;simp only[zG,zV]at hc;have hok:yC H t p:=⟨Wmg hc.1,λg a=>by rw[←G0 a];exact hc.2⟩;split at h
   ·rename_i hn;cases h;exact⟨1,.done hok hn⟩
   ·rename_i p' hs;obtain⟨m,b⟩:=MW h;exact⟨m+1,.next hok hs b⟩
  ·cases h
def Dm (H:Hw)(thread kind size align addr:Int):Option (Hw×Int×Int):=match KW H thread kind size align addr with
 | .inl e=>if e=0 then none else some (H,0,e)
 | .inr (t,p)=>sR 40 (eV H t (some p)) t p
theorem WhK {H:Hw}{thread kind size align addr:Int}{r:Hw×Int×Int}(h:Dm H thread kind size align addr=some r):Hk H thread kind size align addr r.1 r.2.1 r.2.2:=by
 unfold Dm at h;split at h
 ·rename_i e he;split at h
  ·cases h
  ·rename_i hne;cases h;exact .inl ⟨he,hne,rfl,rfl⟩
 ·rename_i t p he;obtain⟨m,a⟩:=MW h;exact .inr ⟨t,p,m,he,a⟩
def xR:List bY:=(vF 8).map ZX
def w0:Hw:=Ur xR ⟨64,1,1,1024,2⟩
def tF (H:Hw)(kind size addr:Int):Hw×Int×Int:=(Dm H 0 kind size (if kind=0 then 8 else 0) addr).getD (H,0,99)
theorem TO {H:Hw}{kind size addr:Int}(h:(tF H kind size addr).2.2≠99):Hk H 0 kind size (if kind=0 then 8 else 0) addr (tF H kind size addr).1 (tF H kind size addr).2.1 (tF H kind size addr).2.2:=by
 unfold tF at *;cases hw:Dm H 0 kind size (if kind=0 then 8 else 0) addr with
 | none=>rw[hw]at h;exact absurd rfl h
 | some r=>exact WhK hw
theorem Iq {H:Hw}{kind size addr al a e:Int}{N:Hw×Int×Int}(hN:N=tF H kind size addr)(h:N.2=(a,e))(hne:e≠99)(hal:al=if kind=0 then 8 else 0):Hk H 0 kind size al addr N.1 a e:=by
 have b:=TO (H:=H) (kind:=kind) (size:=size) (addr:=addr) (by rw[←hN,h];exact hne);rw[←hN,h,←hal]at b;exact b
theorem Bc:Ur ((vF 8).map ZX) ⟨(64:Int).toNat,(1:Int).toNat,(1:Int).toNat,(1024:Int).toNat,(2:Int).toNat⟩=w0:=rfl
end Go.Ar
namespace Go.Ar
open Go Go.Vc Go.Proofs
variable {σ u u':Hp}{F:Rg}{L:dQ}{H H':Hw}{N:Nat}
attribute [local irreducible] w0 tF xR
theorem WlT (g:Gl σ)(gd:Gd σ){R:Option Addr->Hp->Prop}(hR:∀σ' L N,bO σ σ'->σ.size<=N->N<=σ'.size->HH σ' (λb=>N<=b) L w0->R (some ⟨L.p,0,none⟩) σ'):XH.c σ R:=by
 refine XH.o ?_;refine Wu.o ?_;refine nw (cs:=[.int .i64 8,.int .i64 64,.int .i64 1,.int .i64 1,.int .i64 1024,.int .i64 2]) λv A e u=>u.rI rfl ?_;refine MM 8 aB aB λs w r y=>?_;have a:=r.bV u id;have d:=e.trans r;refine a.gG rfl (a.gG rfl (a.gG rfl (a.gG rfl (a.gG rfl ?_))));refine Fx y (g.bK d) (gd.bK d) 64 1 1 1024 2 (λm=>?_) (λ_ x=>?_) λ_ _ z L j i=>?_
 ·have:=Gg 8 aB aB;rw[show((8:Nat):Int)=8 from rfl]at this;rw[this]at m;cases m
 ·exact absurd x aB
 ·rw[Bc]at i;exact cG rfl (hR z L w.size (d.trans j) d.1 j.1 i)
end Go.Ar
namespace Go.Proofs
open Go.Vc
set_option maxRecDepth 100000
def Qi.h:Hn:=.q .o2 (.q (.q .o3 .aJ) (.q (.q (.cV (.seq [.op,.op,.op,.dB false 2 [.op,.op],.op,.dB false 2 [.op,.op],.op,.dB false 2 [.op,.op],.op,.dB false 5 (RI.ops 5)])) .aJ) (.q .o9 (.q (.q .o2 (.c (.q .o9 .l) .l)) (.q .fR (.q .fR (.q (.oq 16) .l)))))))
theorem Qi.o {a:Sl}{b c:Int}{d:Hp}{e:Int->Int->Hp->Prop}(f:ZH.c a d λf g=>If (!f) (e 0 2 g) (bZ (λh i=>bZ (λj k=>bZ (λl m=>bZ (λn o=>If n (e 0 1 o) (Z3.c a b c o λp q r=>If (q != 0) (bL (b+256) λs=>bL (s-1) λt=>Nz 256<|bL (t.tdiv 256) λu=>bL (u*256) λv=>bL (v-b) λw=>e w 0 r) (Ix a.a a.len p 3 λx=>aQ x 0 r λy=>aQ x 1 r λz=>aQ x 2 r λaa=>Ze.c y z aa r λab ac ad=>Ix a.a a.len p 3 λae=>aQ ae 0 ad λaf=>aQ ae 1 ad λag=>aQ ae 2 ad λah=>Qr.c af ag ah ad λai aj ak=>Ix a.a a.len p 3 λal=>aQ al 0 ak λam=>bL (am-b) λan=>bL (ai+ab) λao=>bL (ao-1) λap=>Nz ab<|bL (ap.tdiv ab) λaq=>bL (an+aq) λar=>e ar 0 ak))) λau=>If l (au true m) (bL (c-1) λav=>au ((bits .and .i64 c av) != 0) m)) λaw=>If j (aw true k) (aw (decide (c>256)) k)) λax=>If h (ax true i) (ax (decide (c<1)) i)) λay=>If (b<1) (ay true g) (ay (decide (b>16384)) g))):Qi.c a b c d e:=Wa Tryz.func14 (x:=Qi.h) (R0 f)
def QR.h:Hn:=.q .o2 (.q (.q .o3 .aJ) (.q .o6 .l))
theorem QR.o {a:R2}{b:Hp}{c:Option Addr->Int->Hp->Prop}(d:QI.c a b λd e=>If (!d) (c none 1 e) (Nw (.map #[] 0) e λf g=>aV #[.pointer a,.map (some f.block),.I 0,.I 0,.I 0,.I 0,.I 0,.I 0] 38 g λh i=>c (some h) 0 i)):QR.c a b c:=Wa Tryz.func19 (x:=QR.h) (R0 d)
def Xz.h:Hn:=.q .o2 (.q (.q .o3 .aJ) (.q (.o 13) (.kX [] (.q .o2 (.c (.q .o3 (.q .o7 .o9)) .l)) (.q .o6 (.q .o4 .l)))))
theorem Xz.o {a:R2}{b c d:Int}{e:Hp}{f:Int->Int->Hp->Prop}(g:Xg.c a e λg h=>If (!g) (f 0 5 h) (bQ a λi=>aY i 0 h λj=>Yn.c j b c d h λk l m=>Jn [] (λn=>bQ a λo=>XS.c a l (some (o.add 5)) n λp=>f k l p) λq=>If (l==0) (XC.c a k m λr=>bI a 1 r λt=>nO .i64 bN t k c r λu=>bD a 2 u λw=>bL (w+c) λx=>bQ a λy=>aR y 2 (.I x) u λz=>q z) (q m))):Xz.c a b c d e f:=Wa Tryz.func20 (x:=Xz.h) (R0 g)
def YI.h:Hn:=.q .o2 (.q (.q .o3 .aJ) (.q .o4 (.q (.o 12) (.q (.q (.cV (.seq [.op,.op,.op,.op,.dB false 2 [.op,.op]])) .aJ) (.q .o6 (.q .o4 (.q (.q .o4 (.c .o3 .l)) (.q .o3 .l))))))))
theorem YI.o {a:R2}{b:Hp}{c:Int->Int->Hp->Prop}(d:Xg.c a b λd e=>If (!d) (c 0 5 e) (Wy.c a e λf g h i j k l m n o p=>aV #[.I 0,.I 0,.I 0,.I 0,.I 0,.I 0,.I 0,.I 0,.I 0,.I 0] 56 p λq r=>aR q 0 (.I f) r λs=>aR q 1 (.I g) s λt=>aR q 2 (.I h) t λu=>aR q 3 (.I i) u λv=>aR q 4 (.I j) v λw=>aR q 5 (.I k) w λx=>aR q 6 (.I l) x λy=>aR q 7 (.I m) y λz=>aR q 8 (.I n) z λaa=>aR q 9 (.I o) aa λab=>aQ q 1 ab λac=>aQ q 2 ab λad=>bL (ac+ad) λae=>aQ q 3 ab λaf=>bL (ae+af) λag=>aQ q 4 ab λah=>bL (ag+ah) λai=>aQ q 0 ab λaj=>bZ (λak al=>If ak (c 0 4 al) (aQ q 0 al λam=>bL (ai-am) λan=>bL (1000*an) λao=>Nz ai<|bL (ao.tdiv ai) λap=>Nz ai <| If ((ao.tmod ai)<0) (bL (ap-1) λaq=>c aq 0 al) (c ap 0 al))) λar=>If (aj==0) (ar true ab) (ar (ai==0) ab))):YI.c a b c:=Wa Tryz.func21 (x:=YI.h) (R0 d)
def Zc.h:Hn:=.q .o1 (.q (.q .o3 .aK) (.q .o8 (.kX [] (.q .o2 (.c .o3 .l)) (.q .o6 .aL))))
theorem Zc.o {a:R2}{b c:Int}{d:Hp}{e:aN}(f:Xg.c a d λf g=>If (!f) (e 5 g) (bQ a λh=>aY h 0 g λi=>Zo.c i b c g λj k=>Jn [] (λl=>bQ a λm=>XS.c a j (some (m.add 6)) l λn=>e j n) λo=>If (j==0) (XC.c a c k λp=>o p) (o k))):Zc.c a b c d e:=Wa Tryz.func23 (x:=Zc.h) (R0 f)
def Wy.h:Hn:=.q .o1 (.q (.q .o3 .aJ) (.q .o7 (.q (.cV (.held true [47] (.tk [0,1,2,3,4,5,6,7,10,11,12,13,14,15,16,17,18,19,20,21,22,23,24,25,26,27,28,29,30,31,32,33,34,35,36,37,38,39,40,41,42,43,44,45] (.all [(8,.all [(9,.take 46 (.all [(47,.done)]))])])))) .l)))
theorem Wy.o {a:R2}{b:Hp}{c:Int->Int->Int->Int->Int->Int->Int->Int->Int->Int->Hp->Prop}(d:aV #[.I 0,.I 0,.I 0,.I 0,.I 0,.I 0,.I 0,.I 0,.I 0,.I 0] 56 b λd e=>Xg.c a e λf g=>If (!f) (aR d 0 (.I 0) g λh=>aR d 1 (.I 0) h λi=>aR d 2 (.I 0) i λj=>aR d 3 (.I 0) j λk=>aR d 4 (.I 0) k λl=>aR d 5 (.I 0) l λm=>aR d 6 (.I 0) m λn=>aR d 7 (.I 0) n λo=>aR d 8 (.I 0) o λp=>aR d 9 (.I 0) p λq=>aQ d 0 q λr=>aQ d 1 q λs=>aQ d 2 q λt=>aQ d 3 q λu=>aQ d 4 q λv=>aQ d 5 q λw=>aQ d 6 q λx=>aQ d 7 q λy=>aQ d 8 q λz=>aQ d 9 q λaa=>c r s t u v w x y z aa q) (bF a 0 g λac=>Ww.c ac g λad ae af ag ah ai aj ak al am an ao=>aV #[.I 0,.I 0,.I 0,.I 0,.I 0,.I 0,.I 0,.I 0,.I 0,.I 0,.I 0] 89 ao λap aq=>aR ap 0 (.I ad) aq λar=>aR ap 1 (.I ae) ar λau=>aR ap 2 (.I af) au λav=>aR ap 3 (.I ag) av λaw=>aR ap 4 (.I ah) aw λax=>aR ap 5 (.I ai) ax λay=>aR ap 6 (.I aj) ay λaz=>aR ap 7 (.I ak) az λa0=>aR ap 8 (.I al) a0 λa1=>aR ap 9 (.I am) a1 λa2=>aR ap 10 (.I an) a2 λa3=>dT a3 λa4=>bQ a λa5=>aS a4 a5 2 λa6=>bQ a λa7=>aU a4 a7 0 λa8=>aS a4 ap 1 λa9=>aS a4 ap 2 λba=>bL (a9+ba) λbb=>
 aS a4 ap 3 λbc=>bL (bb+bc) λbd=>aS a4 ap 4 λbe=>bL (bd+be) λbf=>aS a4 ap 5 λbg=>aS a4 ap 8 λbh=>bL (bh*256) λbi=>bQ a λbj=>aS a4 bj 3 λbk=>bQ a λbl=>aS a4 bl 4 λbm=>bQ a λbn=>aS a4 bn 5 λbo=>bQ a λbp=>aS a4 bp 6 λbq=>bQ a λbr=>aS a4 br 7 λbs=>Zj.c a8 a3 λbt bu=>And (a4 bu) <| Xc.c bt ⟨60,#[],#[]⟩ bu λbv bw=>And (a4 bw) <| aR d 0 (.I a6) bw λbx=>aR d 1 (.I bv) bx λbz=>aR d 2 (.I bf) bz λb0=>aR d 3 (.I bg) b0 λb1=>aR d 4 (.I bi) b1 λb2=>aR d 5 (.I bk) b2 λb3=>aR d 6 (.I bm) b3 λb4=>aR d 7 (.I bo) b4 λb5=>aR d 8 (.I bq) b5 λb6=>aR d 9 (.I bs) b6 λb7=>aQ d 0 b7 λb8=>aQ d 1 b7 λb9=>aQ d 2 b7 λca=>aQ d 3 b7 λcb=>aQ d 4 b7 λcc=>aQ d 5 b7 λcd=>aQ d 6 b7 λce=>aQ d 7 b7 λcf=>aQ d 8 b7 λcg=>aQ d 9 b7 λch=>c b8 b9 ca cb cc cd ce cf cg ch b7)):Wy.c a b c:=Wa Tryz.func24 (x:=Wy.h) (R0 d)
def YG.h:Hn:=.q .o1 (.q (.q .o3 .aK) (.q .o6 (.q .o2 (.q (.q .o7 (.k (.loop [(29,.I)] (.q .o1 (.q (.c .l .l) (.q (.k (.q .o4 (.q .o6 (.q .o4 (.q .o5 (.q .o7 (.q (.cV (.tail 11 (RI.ops 11) [.op])) .o5))))))) .o2)))))) (.q .o1 (.q (.q .o1 (.k (.loop [(8,.one .s),(9,.I)] (.q (.q .o4 (.c .l .l)) (.q (.k (.q .o9 (.q (.q .o2 (.c .l .l)) (.kX [] (.q .o2 (.c (.q .fR (.cV (.held true [13,15] (.tk [0,1,2,3,4,5,6,7,8,9,10,11,12] (.all [(13,.take 14 (.all [(15,.done)]))]))))) .l)) .o5)))) .o3))))) .aL))))))
theorem YG.o {a:R2}{b:Hp}{c:Sl->Hp->Prop}(d:Xg.c a b λd e=>If (!d) (c ⟨none,0,0⟩ e) (bF a 0 e λg=>YX.c g e λh i=>Nw (.map #[] 0) i λj k=>bF a 0 k λm=>Zj.c m k λn o=>Xb [bN] (λp=>p 0 o) λq (r:Int) s=>If (r<((n.len:Nat):Int)) (Ix n.a n.len r 4 λt=>aQ t 0 s λu=>aQ t 1 s λv=>aQ t 2 s λw=>aQ t 3 s λx=>aV #[.I 0,.I 0,.I 0,.I 0] 76 s λy z=>aR y 0 (.I u) z λaa=>aR y 1 (.I v) aa λab=>aR y 2 (.I w) ab λac=>aR y 3 (.I x) ac λad=>aQ y 2 ad λae=>Lk .i64 (.ag 6) (some j.block) ae ad λaf=>aV #[.I 0,.I 0,.I 0,.I 0,.I 0,.I 0] 80 ad λag ah=>aR ag 0 (.I ((af.getD (0,0,0,0,0,0)).1)) ah λai=>aR ag 1 (.I ((af.getD (0,0,0,0,0,0)).2.1)) ai λaj=>aR ag 2 (.I ((af.getD (0,0,0,0,0,0)).2.2.1)) aj λak=>aR ag 3 (.I ((af.getD (0,0,0,0,0,0)).2.2.2.1)) ak λal=>aR ag 4 (.I ((af.getD (0,0,0,0,0,0)).2.2.2.2.1)) al λam=>aR ag 5 (.I ((af.getD (0,0,0,0,0,0)).2.2.2.2.2)) am λan=>aQ y 2 an λao=>aR ag 0 (.I ao) an λap=>aQ ag 2 ap λaq=>bL (aq+1) λar=>aR ag 2 (.I ar) ap λau=>aQ ag 3 au λav=>aQ y 1 au λaw=>bL (av+aw) λax=>aR ag 3 (.I ax) au λay=>aQ ag 4 ay λaz=>bI a 1 ay λa1=>aQ y 0 ay λa2=>Lk .i64 bN a1 a2 ay λa3=>bL (az+(a3.getD 0)) λa4=>
 aR ag 4 (.I a4) ay λa5=>aQ y 2 a5 λa6=>aQ ag 0 a5 λa7=>aQ ag 1 a5 λa8=>aQ ag 2 a5 λa9=>aQ ag 3 a5 λba=>aQ ag 4 a5 λbb=>aQ ag 5 a5 λbc=>nO .i64 (.ag 6) (some j.block) a6 (a7,a8,a9,ba,bb,bc) a5 λbd=>bL (r+1) λbe=>q be bd) (Xb [.s,bN] (λbf=>bf ⟨none,0,0⟩ (-1) s) λbg (bh:Sl) (bi:Int) bj=>If (bi<((h.len:Nat):Int)) (Lk .i64 (.ag 6) (some j.block) bi bj λbk=>aV #[.I 0,.I 0,.I 0,.I 0,.I 0,.I 0] 80 bj λbl bm=>aR bl 0 (.I ((bk.getD (0,0,0,0,0,0)).1)) bm λbn=>aR bl 1 (.I ((bk.getD (0,0,0,0,0,0)).2.1)) bn λbo=>aR bl 2 (.I ((bk.getD (0,0,0,0,0,0)).2.2.1)) bo λbp=>aR bl 3 (.I ((bk.getD (0,0,0,0,0,0)).2.2.2.1)) bp λbq=>aR bl 4 (.I ((bk.getD (0,0,0,0,0,0)).2.2.2.2.1)) bq λbr=>aR bl 5 (.I ((bk.getD (0,0,0,0,0,0)).2.2.2.2.2)) br λbs=>If (!bk.isSome) (bL (bi+1) λbt=>bg bh bt bs) (Jn [] (λbu=>aQ bl 0 bu λbv=>aQ bl 1 bu λbw=>aQ bl 2 bu λbx=>aQ bl 3 bu λbz=>aQ bl 4 bu λb0=>aQ bl 5 bu λb1=>aV #[.I bv,.I bw,.I bx,.I bz,.I b0,.I b1] 80 bu λb2 b3=>App bh 6 48 80 [.I 0,.I 0,.I 0,.I 0,.I 0,.I 0] ⟨some b2,1,1⟩ b3 λb4 b5=>bL (bi+1) λb6=>bg b4 b6 b5) λb7=>If (bi≥0) (Ix h.a h.len bi 3 λb8=>aQ b8 0 bs λb9=>aQ b8 1 bs λca=>aQ b8 2 bs λcb=>Ze.c b9 ca cb bs λcc cd ce=>dT ce λcf=>
 Ix h.a h.len bi 3 λcg=>aS cf cg 0 λch=>aS cf bl 2 λci=>bL (ci+cc) λcj=>bL (cj-1) λck=>Nz cc<|bL (ck.tdiv cc) λcl=>aR bl 1 (.I ch) ce λcm=>aR bl 5 (.I cl) cm λcn=>b7 cn) (b7 bs))) (c bh bj)))):YG.c a b c:=Wa Tryz.func25 (x:=YG.h) (R0 d)
def QI.h:Hn:=.q .o1 (.q (.cV (.seq [.op,.op,.op,.dB true 4 (RI.ops 4),.op])) .l)
theorem QI.o {a:R2}{b:Hp}{c:aO}(d:bZ (λd e=>c d e) λf=>If (!a.isNone) (Za.c a b λg h i j k l=>f (decide (g>0)) l) (f false b)):QI.c a b c:=Wa Tryz.func50 (x:=QI.h) (R0 d)
def Xg.h:Hn:=.q .o1 (.q (.cV (.seq [.op,.op,.op,.dB true 5 (RI.ops 5),.op])) .l)
theorem Xg.o {a:R2}{b:Hp}{c:aO}(d:bZ (λd e=>c d e) λf=>If (!a.isNone) (bF a 0 b λh=>f (!h.isNone) b) (f false b)):Xg.c a b c:=Wa Tryz.func51 (x:=Xg.h) (R0 d)
def XC.h:Hn:=.q (.cV (.tail 13 (RI.ops 13) [.op])) .o6
theorem XC.o {a:R2}{b:Int}{c:Hp}{d:aP}(e:bQ a λe=>aQ e 2 c λf=>bI a 1 c λh=>Lk .i64 bN h b c λi=>bL (f-(i.getD 0)) λj=>bQ a λk=>aR k 2 (.I j) c λl=>bI a 1 l λn=>pD .i64 bN n b l λo=>d o):XC.c a b c d:=Wa Tryz.func53 (x:=XC.h) (R0 e)
def XS.h:Hn:=.kX [] (.q .o2 (.c .o6 .o8)) (.q (.cV (.tail 12 (RI.ops 12) [.op])) (.cV (.held true [15] (.tk [0,1,2,3,4,5,6,7,8] (.all [(9,.tk [10,11,12,13,14] (.all [(15,.done)]))])))))
theorem XS.o {a:R2}{b:Int}{c:R2}{d:Hp}{e:aP}(f:Jn [] (λf=>bD a 3 f λh=>bD a 2 f λj=>bQ a λk=>aR k 3 (.I (if j>h then j else h)) f λl=>dT l λm=>bQ a λn=>aS m n 4 λo=>bQ a λp=>aU m p 0 λq=>Ww.c q l λr s t u v w x y z aa ab ac=>And (m ac) <| bL (ab*256) λad=>bQ a λae=>aR ae 4 (.I (if ad>o then ad else o)) ac λaf=>e af) λag=>If (b==0) (bQ c λah=>bM ah d λai=>bL (ai+1) λaj=>bQ c λak=>cY ak (.I aj) d λal=>ag al) (bD a 7 d λan=>bL (an+1) λao=>bQ a λap=>aR ap 7 (.I ao) d λaq=>ag aq)):XS.c a b c d e:=Wa Tryz.func54 (x:=XS.h) (R0 f)
def Xc.h:Hn:=.q .o1 (.q .o1 (.q (.q .o3 (.k (.loop [(5,.I),(10,.I)] (.q .o1 (.q (.c .l .l) (.q (.k (.q .o4 .o6)) .o2)))))) .aL))
theorem Xc.o {a:Sl}{b:Fv}{c:Hp}{d:aN}(e:Xb [bN,bN] (λe=>e 0 0 c) λf (g:Int) (h:Int) i=>If (h<((a.len:Nat):Int)) (Ix a.a a.len h 4 λj=>aQ j 0 i λk=>aQ j 1 i λl=>aQ j 2 i λm=>aQ j 3 i λn=>aV #[.I 0,.I 0,.I 0,.I 0] 76 i λo p=>aR o 0 (.I k) p λq=>aR o 1 (.I l) q λr=>aR o 2 (.I m) r λs=>aR o 3 (.I n) s λt=>aQ o 0 t λu=>aQ o 1 t λv=>aQ o 2 t λw=>aQ o 3 t λx=>V2 Tryz.prog b [.agg #[.I u,.I v,.I w,.I x]] [.I] t λy z=>bL (g+y) λaa=>bL (h+1) λab=>f aa ab z) (d g i)):Xc.c a b c d:=Wa Tryz.func59 (x:=Xc.h) (R0 e)
def XJ.h:Hn:=.q .o2 (.q .o3 .l)
theorem XJ.o {a b c d:Int}{e:Hp}{f:aN}(g:aV #[.I a,.I b,.I c,.I d] 76 e λg h=>aQ g 1 h λi=>f i h):XJ.c a b c d e f:=Wa Tryz.func60 (x:=XJ.h) (R0 g)
end Go.Proofs