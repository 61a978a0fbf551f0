/- Texts joined. -/
import Derived.Shelf.SlSortCmp.NoneTotal
import Derived.Ground.SlsfProg
import Derived.Test.YtkabjcanamcbeaaGreatDoorProg
import Derived.Shelf.SlIterI.Nil
import Derived.Ground.GgzProg
import Derived.Test.YtkabjcanamcbeaaGreatDoorU6
set_option linter.unusedVariables false
set_option linter.unusedSimpArgs false
namespace Go.Ar
open Go.Vc (mget mset mdel)
open Go.Bu (Zf)
structure KS (s s':Sp):Prop where
 l:s'.st.length=s.st.length
 k:∀p,gf s.st p≠0->gf s'.st p≠0/\∀w,w/32=p->s'.wd w=s.wd w
theorem KS.refl (s:Sp):KS s s:=⟨rfl,λp a=>⟨a,λ_ _=>rfl⟩⟩
theorem KS.trans {a b c:Sp}(h:KS a b)(k:KS b c):KS a c:=⟨k.l.trans h.l,λp d=>⟨(k.k p (h.k p d).1).1,λw e=>((k.k p (h.k p d).1).2 w e).trans ((h.k p d).2 w e)⟩⟩
variable {s s' sp sp' s0 s0':Sp}{A B:AR}{k:Nat}
theorem Sim.mz (h:Sim s s'):s'.st.map (λx=>decide (x=0))=s.st.map λx=>decide (x=0):=by
 refine zw λi=>?_;rw[ze,ze];have a:=h.z i;unfold gf at a;rw[zL,zL]at a;by_cases hi:i<s.st.length
 ·have b:i<s'.st.length:=by rw[h.l];exact hi
  rw[gGe hi,gGe b]at a ⊢;simp only[zBU]at a;simp[a]
 ·have d:=h.l;rw[zZ O,zZ O]
theorem WlK {l l':List Nat}(h:l'.map (λx=>decide (x=0))=l.map λx=>decide (x=0))(a m:Nat)(f:Bool->Bool):((l'.drop a).take m).any (λx=>f (decide (x=0)))=((l.drop a).take m).any λx=>f (decide (x=0)):=by
 have e:∀l:List Nat,((l.drop a).take m).any (λx=>f (decide (x=0)))=(((l.map λx=>decide (x=0)).drop a).take m).any f:=λl=>by
  rw[←List.map_drop,←List.map_take,List.any_map];rfl
 rw[e,e,h]
theorem Sim.mapE (h:Sim s s')(a m:Int):mapE s' a m=mapE s a m:=by
 unfold Go.Ar.mapE;rw[h.l];have:=WlK h.mz a.toNat m.toNat (λb=>!b);have e:∀l:List Nat,l.any (λx=>x != 0)=l.any λx=>!decide (x=0):=λl=>by
  refine congrArg l.any (funext λx=>?_);cases x<;>rfl
 rw[e,e,this]
theorem Sim.leaveE (h:Sim s s')(a m:Int):leaveE s' a m=leaveE s a m:=by
 unfold Go.Ar.leaveE Wlr;rw[h.l];have:=WlK h.mz a.toNat m.toNat (λb=>b);have e:∀l:List Nat,l.contains 0=l.any λx=>decide (x=0):=λl=>by
  rw[zBD];simp only[zDC,zy,zS,exists_eq_right]
 rw[e,e,this]
theorem Sim.set (h:Sim s s'){a m v:Nat}(hl:a+m<=s.st.length):Sim (s.set a m v) (s'.set a m v):=by
 refine⟨by simp[Sp.set,Qj,h.l],λp=>?_,?_⟩
 ·show gf (setR s'.st a (a+m) v) p=0↔gf (setR s.st a (a+m) v) p=0;rw[HA (by rw[h.l];exact hl),HA hl];split
  ·exact Iff.rfl
  ·exact h.z p
 ·show(λw=>if a*32<=w/\w<(a+m)*32 then 0 else s'.wd w)=_
  rw[h.w];rfl
theorem WlW {n:Nat}{a m:Int}(h:Zf n a m=true):a.toNat+m.toNat<=n:=by
 by_cases h0:0<=a/\0<=m
 ·obtain⟨a,rfl⟩:=zk h0.1;obtain⟨m,rfl⟩:=zk h0.2;rw[iTn,iTn];exact(Vb.1 h).2
 ·exfalso;unfold Zf at h;simp at h;omega
theorem Sim.mapS (h:Sim s s')(a m:Int):Sim (mapS s a m) (mapS s' a m):=by
 unfold Go.Ar.mapS;rw[h.mapE];split
 ·rename_i h0;refine h.set ?_;unfold Go.Ar.mapE at h0;split at h0
  ·rename_i hr;exact WlW hr
  ·simp at h0
 ·exact h
theorem Sim.leaveS (h:Sim s s')(a m:Int)(v:Nat):Sim (leaveS s a m v) (leaveS s' a m v):=by
 unfold Go.Ar.leaveS;rw[h.leaveE];split
 ·rename_i h0;refine h.set ?_;unfold Go.Ar.leaveE at h0;split at h0
  ·rename_i hr;exact WlW hr
  ·simp at h0
 ·exact h
theorem WhZ (s:Sp)(a m:Nat):KS s (mapS s (a:Int) (m:Int)):=by
 by_cases h:mapE s (a:Int) (m:Int)=0
 ·have j:=WaL h;obtain⟨i,g,r,_⟩:=Wjb h;refine⟨i,λp e=>?_⟩;have b:¬(a<=p/\p<a+m):=λd=>e (j.2.2 p d.1 d.2);exact⟨by rw[g,zA b];exact e,λw u=>r w O⟩
 ·unfold mapS;rw[zA h];exact KS.refl s
theorem Sim.growStart (h:Sim s s')(size:Nat):growStart s' size=growStart s size:=by
 unfold Go.Ar.growStart;rw[h.l]
 congr 1
 funext x
 rw[h.mapE]
theorem Sim.getA (h:Sim s s')(A:AR)(m a no:Nat):(getA A s' m a no).1=(getA A s m a no).1/\(getA A s' m a no).2.1=(getA A s m a no).2.1/\Sim (getA A s m a no).2.2 (getA A s' m a no).2.2/\KS s' (getA A s' m a no).2.2:=by
 unfold Go.Ar.getA;split
 ·exact⟨rfl,rfl,h,KS.refl _⟩
 ·unfold UQ;rw[h.growStart];cases hg:Go.Ar.growStart s (Q4 (max m a))with
  | none=>exact⟨rfl,rfl,h,KS.refl _⟩
  | some x=>
   simp only;split
   ·exact⟨rfl,rfl,h.mapS _ _,WhZ _ _ _⟩
   ·exact⟨rfl,rfl,h.mapS _ _,WhZ _ _ _⟩
theorem Sim.growS (h:Sim s s')(A:AR)(k:Int):(growS A s' k).1=(growS A s k).1/\KO A s' k=KO A s k/\Sim (growS A s k).2 (growS A s' k).2/\KS s' (growS A s' k).2:=by
 unfold Go.Ar.growS KO;split
 ·split
  ·rename_i c ss _ _;obtain⟨d,a,e,b⟩:=h.getA A c.pages 1 (k.toNat+1);cases e1:Go.Ar.getA A s c.pages 1 (k.toNat+1)with
   | mk o1 r1=>cases e2:Go.Ar.getA A s' c.pages 1 (k.toNat+1)with
    | mk o2 r2=>
     obtain⟨i,j⟩:=r1;obtain⟨g,m⟩:=r2;rw[e1,e2]at d a e;rw[e2]at b;simp only at d a e b;subst d;subst a;cases o2<;>exact⟨rfl,rfl,e,b⟩
  ·exact⟨rfl,rfl,h,KS.refl _⟩
 ·exact⟨rfl,rfl,h,KS.refl _⟩
theorem Sim.takeAS (h:Sim s s')(A:AR)(m a:Int):(takeAS A s' m a).1=(takeAS A s m a).1/\Qz A s' m a=Qz A s m a/\Z5 A s' m a=Z5 A s m a/\Sim (takeAS A s m a).2 (takeAS A s' m a).2/\KS s' (takeAS A s' m a).2:=by
 unfold Go.Ar.takeAS Qz Z5;split
 ·obtain⟨e,b,g,d⟩:=h.getA A m.toNat a.toNat 41;cases e1:Go.Ar.getA A s m.toNat a.toNat 41 with
  | mk o1 r1=>cases e2:Go.Ar.getA A s' m.toNat a.toNat 41 with
   | mk o2 r2=>
    obtain⟨j,p⟩:=r1;obtain⟨i,r⟩:=r2;rw[e1,e2]at e b g;rw[e2]at d;simp only at e b g d;subst e;subst b;cases o2<;>exact⟨rfl,rfl,rfl,g,d⟩
 ·exact⟨rfl,rfl,rfl,h,KS.refl _⟩
theorem Wb0 (s:Sp)(a m:Int)(v:Nat):(leaveS s a m v).st.length=s.st.length:=by
 unfold Go.Ar.leaveS;split
 ·simp[Sp.set,Qj]
 ·rfl
theorem Sim.relF:∀(rs:List (Nat×Nat)) {s s':Sp} (A:AR),Sim s s'->(rs.foldl rel1 (A,s')).1=(rs.foldl rel1 (A,s)).1/\Sim (rs.foldl rel1 (A,s)).2 (rs.foldl rel1 (A,s')).2/\(rs.foldl rel1 (A,s')).2.st.length=s'.st.length
 | [],s,s',A,h=>⟨rfl,h,rfl⟩
 | r::rs,s,s',A,h=>by
  rw[zAI,zAI];obtain⟨h1,h2,h3⟩:=Sim.relF rs (rel1 (A,s) r).1 (h.leaveS r.1 r.2 1);exact⟨h1,h2,h3.trans (Wb0 _ _ _ _)⟩
theorem Sim.relS (h:Sim s s')(A:AR)(want:Int):(relS A s' want).1=(relS A s want).1/\Sim (relS A s want).2 (relS A s' want).2/\(relS A s' want).2.st.length=s'.st.length:=by
 unfold Go.Ar.relS;split
 ·exact⟨rfl,h,rfl⟩
 ·exact Sim.relF _ _ h
theorem Sim.trimF:∀(rs:List Nat) {s s':Sp} (A:AR),Sim s s'->(rs.foldl Vd (A,s')).1=(rs.foldl Vd (A,s)).1/\Sim (rs.foldl Vd (A,s)).2 (rs.foldl Vd (A,s')).2/\(rs.foldl Vd (A,s')).2.st.length=s'.st.length
 | [],s,s',A,h=>⟨rfl,h,rfl⟩
 | r::rs,s,s',A,h=>by
  rw[zAI,zAI];obtain⟨h1,h2,h3⟩:=Sim.trimF rs (Vd (A,s) r).1 (h.leaveS ((r*16:Nat):Int) 16 0);exact⟨h1,h2,h3.trans (Wb0 _ _ _ _)⟩
theorem Sim.trimS (h:Sim s s')(A:AR):(trimS A s').1=(trimS A s).1/\Sim (trimS A s).2 (trimS A s').2/\(trimS A s').2.st.length=s'.st.length:=Sim.trimF _ _ h
variable {W:Wd}
theorem Wm7 (h:WI W){cl:Int}{l:List Int}(ho:ownW W.held k cl l=true)(c x:Int):Um (W.held.filter λp=>!isOf k cl l p) c x↔Um W.held c x/\¬(c=cl/\x∈l):=by
 constructor
 ·rintro⟨p,hp,h1,h2,h3⟩;obtain⟨a,d⟩:=zH.1 hp;refine⟨⟨p,a,h1,h2,h3⟩,?_⟩;rintro⟨rfl,b⟩;obtain⟨q,i,e⟩:=(KD.1 ho).1 x b;obtain⟨g,u,s,r⟩:=KC.1 e;obtain rfl:=h.same (p:=p) (q:=q) a i O;have:isOf k c l p=true:=Z4.2 ⟨g,h2,by rw[h3];exact b⟩;rw[this]at d;cases d
 ·rintro⟨⟨p,hp,h1,h2,h3⟩,d⟩;refine⟨p,zH.2 ⟨hp,?_⟩,h1,h2,h3⟩;have:isOf k cl l p=false:=zAU.2 λb=>by
   obtain⟨_,j,m⟩:=Z4.1 b;exact d ⟨h2.symm.trans j,by rw[←h3];exact m⟩
  rw[this];rfl
theorem Woo {held:List Pc}{cl:Int}{l:List Int}(ho:ownW held k cl l=true):∀x∈l,Um held cl x:=λx i=>by
 obtain⟨q,b,a⟩:=(KD.1 ho).1 x i;obtain⟨j,g,e,d⟩:=KC.1 a;exact⟨q,b,d,g,e⟩
theorem WkR (h:WI W){cl:Int}{l:List Int}(ho:ownW W.held k cl l=true)(c x:Int):Um (Gu W.held k cl l true) c x↔Um W.held c x/\¬(c=cl/\x∈l):=by
 constructor
 ·rintro⟨p,hp,h1,h2,h3⟩;obtain⟨q,b,rfl⟩:=QJ.1 hp;by_cases hof:isOf k cl l q=true
  ·rw[zB hof]at h1;cases h1
  ·rw[zA hof]at h1 h2 h3;refine⟨⟨q,b,h1,h2,h3⟩,?_⟩;rintro⟨rfl,hx⟩;obtain⟨r,d,a⟩:=(KD.1 ho).1 x hx;obtain⟨e,s,m,j⟩:=KC.1 a;obtain rfl:=h.same b d O;exact hof (Z4.2 ⟨e,h2,by rw[h3];exact hx⟩)
 ·rintro⟨⟨p,hp,h1,h2,h3⟩,hn⟩;refine⟨p,QJ.2 ⟨p,hp,?_⟩,h1,h2,h3⟩;rw[zA];intro hx;obtain⟨_,g,i⟩:=Z4.1 hx;exact hn ⟨h2.symm.trans g,by rw[←h3];exact i⟩
theorem WiH {held:List Pc}{cl:Int}{l:List Int}:∀p∈Gu held k cl l true,p.moved=false->p∈held:=λp d a=>by
 obtain⟨q,b,rfl⟩:=QJ.1 d;by_cases hof:isOf k cl l q=true
 ·rw[zB hof]at a;cases a
 ·rw[zA hof];exact b
theorem WmI (h:WI W)(hk:W.ars[k]?=some A){j:Nat}:(∀x∈YK A (j:Int),∀c,¬Um W.held c x)/\(YK A (j:Int)).Nodup/\(∀c x,Um (Gu W.held k j (YK A (j:Int)) false) c x↔Um W.held c x\/(c=j/\x∈YK A (j:Int))) ∧
 (∀p∈Gu W.held k j (YK A (j:Int)) false,p.moved=false->p∈W.held\/∀c,¬Um W.held c (p.addr:Int)):=by
 obtain⟨o,Q,y,K,M,L⟩:=WdK (h.ga k A hk) (j:Int);rw[iTn]at y;have B:∀x∈YK A (j:Int),∃q∈W.held,q.k=k/\q.cls=j/\(q.addr:Int)=x/\q.moved=true:=λx d=>by
  have w:=y x d;obtain⟨t,ht,g⟩:=w;have u:j<A.tb.length:=by rw[←(h.ga k A hk).lt];exact(gSi.1 ht).1
  obtain⟨c,J,P,C,F⟩:=(h.ga k A hk).cl u;have s:TkA A j x:=(KQ C).2 ((h.ga k A hk).trt j c J t C ht x g);obtain⟨q,a,r,e,b⟩:=h.ht k A hk j x s;obtain⟨_,_,_,_,E⟩:=h.cls a e (by rw[r];exact hk);exact⟨q,a,r,e,b,E.2 (by rw[b];exact⟨t,ht,g⟩)⟩
 have i:∀x∈YK A (j:Int),∀c,¬Um W.held c x:=λx d c D=>by
  obtain⟨q,a,_,_,b,z⟩:=B x d;have:=(h.um a D b).1;rw[z]at this;cases this
 refine⟨i,K,λc x=>⟨?_,?_⟩,λp m N=>?_⟩
 ·rintro⟨p,m,h1,h2,h3⟩;obtain⟨q,a,rfl⟩:=QJ.1 m;by_cases hof:isOf k (j:Int) (YK A (j:Int)) q=true
  ·rw[zB hof]at h2 h3;obtain⟨_,H,G⟩:=Z4.1 hof;exact .inr ⟨h2.symm.trans H,by rw[←h3];exact G⟩
  ·rw[zA hof]at h1 h2 h3;exact .inl ⟨q,a,h1,h2,h3⟩
 ·rintro(⟨p,m,h1,h2,h3⟩|⟨rfl,d⟩)
  ·refine⟨p,QJ.2 ⟨p,m,?_⟩,h1,h2,h3⟩;split
   ·rw[←h1]
   ·rfl
  ·obtain⟨q,a,r,e,b,z⟩:=B x d;refine⟨{q with moved:=false},QJ.2 ⟨q,a,?_⟩,rfl,e,b⟩;rw[zB (Z4.2 ⟨r,e,by rw[b];exact d⟩)]
 ·obtain⟨q,a,rfl⟩:=QJ.1 m;by_cases hof:isOf k (j:Int) (YK A (j:Int)) q=true
  ·rw[zB hof];exact .inr (i _ (Z4.1 hof).2.2)
  ·rw[zA hof];exact .inl a
theorem WjL {tb:List Cls}{ars:List AR}{sp:Sp}{held new:List Pc}(h:WI ⟨tb,sp,ars,held++new⟩):∀p∈new,∀c,¬Um held c (p.addr:Int):=by
 rintro p d c ⟨q,b,_,_,g⟩;have e:=h.same (p:=p) (q:=q) (zBV _ d) (zBF _ b) O;have a:=h.hk;simp only[zAD]at a;rw[zBK]at a;exact a.2.2 q.key (zD.2 ⟨q,b,rfl⟩) p.key (zD.2 ⟨p,d,rfl⟩) (by rw[e])
theorem Wl2 {held new:List Pc}{cl:Int}{l:List Int}(h1:∀p∈new,p.moved=false/\p.cls=cl/\(p.addr:Int)∈l)(h2:∀x∈l,∃p∈new,(p.addr:Int)=x)(c x:Int):Um (held++new) c x↔Um held c x\/(c=cl/\x∈l):=by
 constructor
 ·rintro⟨p,b,a1,a2,a3⟩;rcases zR.1 b with b|b
  ·exact .inl ⟨p,b,a1,a2,a3⟩
  ·obtain⟨_,g,d⟩:=h1 p b;exact .inr ⟨a2.symm.trans g,by rw[←a3];exact d⟩
 ·rintro(⟨p,b,a⟩|⟨rfl,hx⟩)
  ·exact⟨p,zBF _ b,a⟩
  ·obtain⟨p,b,e⟩:=h2 x hx;exact⟨p,zBV _ b,(h1 p b).1,(h1 p b).2.1,e⟩
theorem WiI {tb:List Cls}{ars:List AR}{sp:Sp}{held new:List Pc}(h:WI ⟨tb,sp,ars,held++new⟩):∀p∈held++new,p.moved=false->p∈held\/∀c,¬Um held c (p.addr:Int):=λp a _=>by
 rcases zR.1 a with a|a
 ·exact .inl a
 ·exact .inr (WjL h p a)
theorem WnB {held:List Pc}(us:List AR)(c x:Int):Um (Wgm us held) c x↔Um held c x:=by
 unfold Wgm;constructor
 ·rintro⟨p,hp,h⟩;exact⟨p,(zH.1 hp).1,h⟩
 ·rintro⟨p,hp,h1,h⟩;exact⟨p,zH.2 ⟨hp,by rw[h1];rfl⟩,h1,h⟩
theorem KU {ss:List SpA}:∀{i:Nat},Zv ss i=none->∀k,k<i->∀s,ss[k]?=some s->¬s.many<s.tk.length
 | 0,_,k,hk,_,_=>by omega
 | i+1,h,k,hk,s,hs=>by
  unfold Zv at h;by_cases hki:k=i
  ·subst hki;rw[hs]at h;simp only at h;intro hlt;rw[zB hlt]at h;split at h
   ·split at h
    ·split at h<;>cases h
    ·cases h
   ·cases h
  ·cases hi:ss[i]? with
   | none=>
    rw[hi]at h;exact KU h k O s hs
   | some x=>
    rw[hi]at h;simp only at h;split at h
    ·split at h
     ·split at h
      ·split at h<;>cases h
      ·cases h
     ·exact KU (by assumption) k O s hs
    ·exact KU h k O s hs
theorem Wit (h:GA A)(hw:Ow A sp){j:Nat}(hE:KO A sp (j:Int)=0){w:Nat}(h1:1<=w):Ys (growS A sp (j:Int)).1 (j:Int) (w:Int)≠[]:=by
 rcases Wa1 h hw (j:Int)with⟨_,hn⟩|⟨j',c,ss,x,A1,sp1,hj,hk,hk1,_,e,hst,r1,r2,r3,_,hd,hS⟩
 ·exact(hn hE).elim
 ·obtain rfl:j=j':=by omega
  have a:Cl (growS A sp (j:Int)).1 j c (addS c ss x):=by
   rw[e];have d:Cl (useA A1 x c.pages (j+1)) j c ss:=hk1;exact U4 d _
  have E:=hS.ga.cen j c _ a;have b:(⟨x,List.replicate c.n false⟩:SpA)∈addS c ss x:=VD.2 (.inl rfl);have g:(growS A sp (j:Int)).1.ck (j:Int)=true:=HF.2 ⟨j,rfl,a.lt⟩;unfold Ys QF VB;rw[g,zB rfl,zA (show ¬((w:Int)<0) by omega),zB rfl,iTn,iTn,a.1,a.2];simp only;obtain⟨w,rfl⟩:∃v,w=v+1:=⟨w-1,O⟩;cases ho:oneS c (addS c ss x)with
  | some r=>
   obtain⟨y,B⟩:=r;rw[Ga ho];simp
  | none=>
   exfalso;unfold oneS best at ho;obtain⟨l,z⟩:=zN b;have p:=(gSi.1 z).1;have m:(⟨x,List.replicate c.n false⟩:SpA).many<(⟨x,List.replicate c.n false⟩:SpA).tk.length:=by
    have:=E.ok.n_pos;simp[SpA.many,zFM];omega
   cases hb:Zv (addS c ss x) (addS c ss x).length with
   | none=>exact KU hb l p _ z m
   | some i=>
    rw[hb]at ho;obtain⟨_,s,C,u⟩:=QN hb;obtain⟨r,D,_⟩:=G7 u;simp only[C,D]at ho;cases ho
end Go.Ar
namespace Go.Ar
open Go.Vc (mget mset mdel)
variable {H:Hw}{held:List Pc}{s0:Sp}{t k:Nat}{g:Th}{A:AR}{c:Cls}
theorem Z3 {p:Ph}{H1:Hw}{g1:Th}{nx:Option Ph}{a e:Int}(ht:t<H.ths.length)(hs:Wt H t p=({H1 with ths:=H.ths.set t g1},nx,a,e)):QO H t p = {H1 with ths:=H.ths.set t {g1 with ph:=nx}}:=by
 unfold QO;rw[hs];show Hw.setT _ t _=_;rw[ZM (g:=g1) (by simp[ht])];simp only[zBP]
structure StI (H:Hw) (t:Nat) (p:Ph):Prop where
 ok:Wb2 H t p
 hi:∃held s0,HI (QO H t p) held s0
 ks:KS H.sp (QO H t p).sp
theorem StI.mk' {p:Ph}(hg:H.ths[t]?=some g)(hl:g.hands.length<=41)(h1:WgX H t p){H':Hw}{held':List Pc}{s0':Sp}(e:QO H t p=H')(h2:HI H' held' s0')(h3:KS H.sp H'.sp):StI H t p:=
 ⟨⟨h1,λb a=>by rw[hg]at a;cases a;omega⟩,⟨held',s0',by rw[e];exact h2⟩,by rw[e];exact h3⟩
def Rq (tb:List Cls)(g:Th):Ph->Int->Int->Prop
 | .take k,cl,sz=>cl=k/\∃c,tb[k]?=some c/\sz=c.size
 | .transfer k _,cl,sz=>cl=k/\∃c,tb[k]?=some c/\sz=c.size
 | .central k _,cl,sz=>cl=k/\∃c,tb[k]?=some c/\sz=c.size
 | .grow k _,cl,sz=>cl=k/\∃c,tb[k]?=some c/\sz=c.size
 | .fill,cl,sz=>∃k xs r c,g.hands=(k,xs)::r/\cl=k/\tb[k]?=some c/\sz=c.size
 | .large m,cl,sz=>cl = -1/\sz=((m*256:Nat):Int)
 | _,_,_=>False
def Wam (H:Hw)(t:Nat):Ph->Nat
 | .take _=>5
 | .transfer _ _=>4
 | .central k w=>if Ys (H.arn t) (k:Int) (w:Int)=[]then 3 else 1
 | .grow _ _=>2
 | _=>0
def EfM (H:Hw)(t:Nat)(p:Ph)(cl sz:Int):Prop:=
 (∃p' g',(Wt H t p).2.1=some p'/\(QO H t p).live=H.live/\(QO H t p).ths[t]?=some g'/\Rq H.tb g' p' cl sz/\Wam (QO H t p) t p'<Wam H t p) ∨
 ((Wt H t p).2.1=none/\(Wt H t p).2.2.2≠0/\(Wt H t p).2.2.1=0/\(QO H t p).live=H.live) ∨
 ((Wt H t p).2.1=none/\(Wt H t p).2.2.2=0/\mget H.live (Wt H t p).2.2.1=none/\(QO H t p).live=mset H.live (Wt H t p).2.2.1 ((Wt H t p).2.2.1,sz,cl,YJ (QO H t p).ars (Wt H t p).2.2.1))
theorem HI.mem (h:HI H held s0)(hg:H.ths[t]?=some g):g∈H.ths:=zE hg
theorem HI.own_lt (h:HI H held s0)(t:Nat):H.own t<H.ars.length:=zDP _ (by have:=h.a1;omega)
theorem HI.arn (h:HI H held s0)(t:Nat):H.ars[H.own t]?=some (H.arn t):=by
 have a:=gGe (h.own_lt t);rw[Wji a];exact a
theorem HI.tb40 (h:HI H held s0):H.tb.length<=40:=by
 have a:=h.arn 0;have:=(h.wi.ga _ _ a).tb;rw[h.wi.tb _ _ a]at this;exact this
theorem HI.cls (h:HI H held s0)(hk:k<H.tb.length):∃c,H.tb[k]?=some c/\c.ok:=⟨H.tb[k],gGe hk,h.ok _ (zc hk)⟩
theorem ThI.li {m:Nat}(h:ThI m g)(hk:k<m):∃l,g.ls[k]?=some l/\g.li k=l/\LiOk l/\l.os.length<=128:=by
 have a:=gGe (l:=g.ls) (i:=k) (by rw[h.ll];exact hk);have:=h.lo _ (zc (by rw[h.ll];exact hk));exact⟨_,a,WkD a,this.1,this.2⟩
theorem ThI.setL {m:Nat}(h:ThI m g){l':Li}(h1:LiOk l')(h2:l'.os.length<=128):(g.ls.set k l').length=m/\∀l∈g.ls.set k l',LiOk l/\l.os.length<=128:=by
 refine⟨by rw[zBR];exact h.ll,λl a=>?_⟩;rcases zEW a with a|rfl
 ·exact h.lo l a
 ·exact⟨h1,h2⟩
theorem Woh {ls:List Li}{l':Li}{hs:List Bt}{ph:Option Ph}(hk:k<ls.length):(⟨ls.set k l',hs,ph⟩:Th).li k=l':=by
 unfold Th.li;rw[WfX l' k hk,zB rfl]
theorem HI.lvOf (h:HI H held s0){y:Int}(hu:Um held (k:Int) y)(hc:H.tb[k]?=some c):Lv held (y,(y,(c.size:Int),(k:Int),YJ H.ars y)):=by
 obtain⟨p,d,i,e,rfl⟩:=hu;obtain⟨A,g,_⟩:=h.wi.hf p d;obtain⟨c',b,j,_⟩:=h.wi.cls d e g;rw[h.wi.tb _ _ g]at b;have a:H.tb[k]?=some c':=b;rw[hc]at a;cases a;exact⟨rfl,p,d,i,e,rfl,by rw[j],by rw[h.owner0 d]⟩
theorem G4 {ls:List Li}{l:Li}(hl:ls[k]?=some l)(l':Li)(k' x:Int):cnL (ls.set k l') k' x+(if(k:Int)=k' then l.os.count x else 0)=cnL ls k' x+(if(k:Int)=k' then l'.os.count x else 0):=by
 have:=Wnd l' (gSi.1 hl).1 k' x;rw[zL,hl]at this;exact this
theorem Wnr {ls:List Li}{l:Li}(hl:ls[k]?=some l)(x:Int):cnL ls (k:Int) x=l.os.count x:=by
 rw[Wau,zL,hl];rfl
theorem Wmc (h:HI H held s0)(hg:H.ths[t]?=some g)(hph:g.ph=some (.take k)){cl sz:Int}(hr:Rq H.tb g (.take k) cl sz):StI H t (.take k)/\EfM H t (.take k) cl sz:=by
 have K:=(gSi.1 hg).1;have b:=h.th g (h.mem hg);obtain⟨Q,z⟩:g.hands=[]/\k<H.tb.length:=by have:=b.ph;unfold PhI at this;rw[hph]at this;exact this
 obtain⟨rfl,c,m,rfl⟩:=hr;have B:=h.ok c (zE m);obtain⟨l,hl,j,G,U⟩:=b.li z;have d:=WfU B G;have i:=GK hg;cases hT:Kb c l with
 | mk o l'=>
  rw[hT]at d;cases o with
  | some y=>
   have w:Wt H t (.take k)=({{H with live:=mset H.live y (y,(c.size:Int),(k:Int),YJ H.ars y)}with ths:=H.ths.set t {g with ls:=g.ls.set k l'}},none,y,0):=by
    simp only[Wt,i,Ua m,j,hT,VF,ZM hg,Th.setL]
   have e:=Z3 K w;have C:1<=cnT g (k:Int) y:=by
    have:=Wf6 hT y;rw[zGZ]at this;unfold cnT;rw[Wnr hl];omega
   have P:=h.um_t (h.mem hg) C;have F:=h.not_live (h.mem hg) C;have r:l'.os.length<=128:=by
    have:l'.os.length<=l.os.length:=by
     unfold Kb at hT;split at hT
     ·cases hT
     ·cases hT;simp
    omega
   obtain⟨ll,M⟩:=b.setL (k:=k) d r;have J:=h.updT hg (g':={g with ls:=g.ls.set k l',ph:=none}) (live':=mset H.live y (y,(c.size:Int),(k:Int),YJ H.ars y)) (λD x=>by
    rw[Wb3 _ F];have E:=G4 hl l' D x;have W:=Wf6 hT x;unfold cnT;rw[hph];simp only[cnP];by_cases hkk:(k:Int)=D
    ·simp only[hkk,zT]at E ⊢;omega
    ·simp only[hkk,zu]at E ⊢;omega)
    (Go.Vc.mset_keys h.lk) (λS p=>by
     rcases(Wb8 F).1 p with p|rfl
     ·exact .inl p
     ·exact .inr (h.lvOf P m))
    (λs a N=>by cases N) ⟨ll,M,b.hb,b.hl,by unfold PhI;exact Q⟩
   refine⟨StI.mk' hg b.hl ⟨z,λV L A=>?_⟩ e J (KS.refl _),.inr (.inr ?_)⟩
   ·rw[i,j,Ua m,hT]at A;cases A;exact(h.i63 P).1
   ·rw[e,w];exact⟨rfl,rfl,F,rfl⟩
  | none=>
   have w:Wt H t (.take k)=({H with ths:=H.ths.set t {g with ls:=g.ls.set k l'}},some (.transfer k (Wa7 c l')),0,0):=by
    simp only[Wt,i,Ua m,j,hT,ZM hg,Th.setL]
   have e:=Z3 K w;obtain⟨o1,o2⟩:=WhP hT;obtain⟨ll,M⟩:=b.setL (k:=k) d (by rw[o2];simp);have u:=d.lim1;have R:1<=Wa7 c l'/\Wa7 c l'<=32:=by
    unfold Cls.ok at B;unfold Wa7;simp only at u;omega
   have J:=h.updT hg (g':={g with ls:=g.ls.set k l',ph:=some (.transfer k (Wa7 c l'))}) (live':=H.live) (λD x=>by
    have E:=G4 hl l' D x;rw[o1,o2]at E;unfold cnT;rw[hph];simp only[cnP];omega) h.lk (λS p=>.inl p) (λs a N=>by cases N) ⟨ll,M,b.hb,b.hl,by
     unfold PhI;exact⟨Q,z,by rw[Woh (by rw[b.ll];exact z)];exact o2,R⟩⟩
   refine⟨StI.mk' hg b.hl ⟨z,λV L A=>?_⟩ e J (KS.refl _),.inl ?_⟩
   ·rw[i,j,Ua m,hT]at A;cases A
   ·rw[e,w];exact⟨_,_,rfl,rfl,zM K,⟨rfl,c,m,rfl⟩,by simp[Wam]⟩
theorem GM (h:GA A)(h0:Z7 A (k:Int)=0)(hc:A.tb[k]?=some c):∃x xs,YK A (k:Int)=x::xs/\xs.length+1=c.batch:=by
 have b:YK A (k:Int)=(match A.tra[k]? with
  | some t=>t.bs.getLast?.getD []
  | none=>[]):=by unfold YK;rw[zB h0,iTn];rfl
 unfold Z7 at h0;rw[iTn]at h0;split at h0
 ·split at h0
  ·rename_i t ht;split at h0
   ·cases h0
   ·rename_i hb;rw[ht]at b;simp only at b;have m:t.bs.getLast?=some (t.bs.getLast hb):=List.getLast?_eq_some_getLast hb;rw[m]at b;simp only[zBU]at b;have:=h.trb k c t hc ht _ (List.getLast_mem hb);rw[←b]at this;have i:=h.cen;cases hx:YK A (k:Int)with
    | nil=>
     rw[hx]at this;have e:k<A.tb.length:=(gSi.1 hc).1;obtain⟨g,j,_,a,_⟩:=h.cl e;have d:g=c:=Option.some.inj (a.1.symm.trans hc);have:=(h.cen k g j a).ok;unfold Cls.ok at this;simp at *;subst d;omega
    | cons x xs=>exact⟨x,xs,rfl,by rw[hx]at this;simpa using this⟩
  ·cases h0
 ·cases h0
theorem WeG (h:HI H held s0)(hg:H.ths[t]?=some g){w:Nat}(hph:g.ph=some (.transfer k w)){cl sz:Int}(hr:Rq H.tb g (.transfer k w) cl sz):StI H t (.transfer k w)/\EfM H t (.transfer k w) cl sz:=by
 have B:=(gSi.1 hg).1;have d:=h.th g (h.mem hg);obtain⟨G,C,z,R⟩:g.hands=[]/\k<H.tb.length/\(g.li k).os=[]/\1<=w/\w<=32:=by have:=d.ph;unfold PhI at this;rw[hph]at this;exact this
 obtain⟨rfl,c,i,rfl⟩:=hr;have J:=h.ok c (zE i);have p:=J;unfold Cls.ok at p;have A:=h.arn t;have ga:=h.wi.ga _ _ A;have m:(H.arn t).tb[k]?=some c:=by rw[h.wi.tb _ _ A];exact i
 have M:WgX H t (.transfer k w):=⟨C,λD=>by
  obtain⟨x,r,e,_⟩:=GM ga D m;rw[e];simp⟩
 by_cases hcase:w=c.batch/\Z7 (H.arn t) (k:Int)=0
 ·obtain⟨rfl,D⟩:=hcase;obtain⟨x,r,L,P⟩:=GM ga D m;have u:Wt H t (.transfer k c.batch)=({H.setA (H.own t) (ZR (H.arn t) (k:Int))with ths:=H.ths.set t {g with hands:=[(k,x::r)]}},some .fill,0,0):=by
   simp only[Wt,Ua i,zT,D,QP,L];rw[ZM (g:=g) (by exact hg),G];rfl
  have e:=Z3 (H1:=H.setA (H.own t) (ZR (H.arn t) (k:Int))) B u;obtain⟨N,Q,W,X⟩:=WmI h.wi A (j:=k);have wi:=h.wi.fromT A (k:Int);have F:=h.upd hg (g':={g with hands:=[(k,x::r)],ph:=some .fill}) (live':=H.live) wi h.sim rfl (by simp[Wd.put]) X (λS y=>by
   rw[We3 Q (λy V=>N y V _) W,L];unfold cnT;rw[hph,G];simp only[cnP,Kx,VH];omega) h.lk (λU E=>.inl E) (λs a K=>by cases K) ⟨d.ll,d.lo,λb hb=>by
    simp only[zW]at hb;subst hb;exact⟨C,by simp,by simp;omega⟩,by simp,by
    unfold PhI;exact⟨k,x,r,rfl,C,z,O⟩⟩
  refine⟨StI.mk' hg d.hl M e F (KS.refl _),.inl ?_⟩;rw[e,u];exact⟨_,_,rfl,rfl,zM B,⟨k,x::r,[],c,rfl,rfl,i,rfl⟩,by simp[Wam]⟩
 ·have u:Wt H t (.transfer k w)=({H with ths:=H.ths.set t g},some (.central k w),0,0):=by
   have:H.ths.set t g=H.ths:=Ql hg;rw[this];simp only[Wt,Ua i];split
   ·split
    ·exact(hcase ⟨by assumption,by assumption⟩).elim
    ·rfl
   ·rfl
  have e:=Z3 B u;have F:=h.updT hg (g':={g with ph:=some (.central k w)}) (live':=H.live) (λS x=>by
   unfold cnT;rw[hph];simp only[cnP]) h.lk (λU E=>.inl E) (λs a K=>by cases K) ⟨d.ll,d.lo,d.hb,d.hl,by
    unfold PhI;exact⟨G,C,z,R⟩⟩
  refine⟨StI.mk' hg d.hl M e F (KS.refl _),.inl ?_⟩;rw[e,u];refine⟨_,_,rfl,rfl,zM B,⟨rfl,c,i,rfl⟩,?_⟩;simp only[Wam];split<;>omega
theorem Wdh (h:GA A)(j w:Nat):(Ys A (j:Int) (w:Int)).length<=w:=by
 unfold Ys;split
 ·rename_i h0;have b:A.ck (j:Int)=true:=by
   unfold QF at h0;split at h0
   ·assumption
   ·cases h0
  obtain⟨i,g,d⟩:=HF.1 b;obtain⟨c,e,t,a,m⟩:=h.cl d;have:i=j:=by omega
  subst this;unfold VB;rw[iTn,iTn,a.1,a.2];exact(GC w (h.cen i c e a)).2.2.1
 ·simp
theorem WkB (H:Hw)(t:Nat)(B:AR)(h:H.own t<H.ars.length)(sp:Sp)(ths:List Th):Hw.arn {H.setA (H.own t) B with sp:=sp,ths:=ths} t=B:=by
 refine Wji ?_;have:Hw.own {H.setA (H.own t) B with sp:=sp,ths:=ths} t=H.own t:=by unfold Hw.own Hw.setA;simp
 rw[this];simp[Hw.setA,h]
theorem Wgq (h:HI H held s0)(hg:H.ths[t]?=some g){w:Nat}(hph:g.ph=some (.central k w)){cl sz:Int}(hr:Rq H.tb g (.central k w) cl sz):StI H t (.central k w)/\EfM H t (.central k w) cl sz:=by
 have C:=(gSi.1 hg).1;have d:=h.th g (h.mem hg);obtain⟨G,J,B,M⟩:g.hands=[]/\k<H.tb.length/\(g.li k).os=[]/\1<=w/\w<=32:=by have:=d.ph;unfold PhI at this;rw[hph]at this;exact this
 obtain⟨rfl,c,L,rfl⟩:=hr;have K:=h.arn t;have ga:=h.wi.ga _ _ K;have wi:=h.wi.from K (k:Int) (w:Int);have i:=Wdh ga k w;have r:=(WbJ ga (k:Int) (w:Int)).2.2.1;cases hv:Ys (H.arn t) (k:Int) (w:Int)with
 | nil=>
  have u:Wt H t (.central k w)=({H.setA (H.own t) (YO (H.arn t) (k:Int) (w:Int))with ths:=H.ths.set t g},some (.grow k w),0,0):=by
   have:H.ths.set t g=H.ths:=Ql hg;rw[this];simp only[Wt,hv,zT,Hw.setA]
  have e:=Z3 (H1:=H.setA (H.own t) (YO (H.arn t) (k:Int) (w:Int))) C u;rw[hv]at wi;simp only[zCC,zz]at wi;have F:=h.upd hg (g':={g with ph:=some (.grow k w)}) (live':=H.live) wi h.sim rfl (by simp[Wd.put]) (λp j _=>.inl j) (λN y=>by
   unfold cnT;rw[hph];simp only[cnP]) h.lk (λQ D=>.inl D) (λs a j=>by cases j) ⟨d.ll,d.lo,d.hb,d.hl,by
    unfold PhI;exact⟨G,J,B,M⟩⟩
  refine⟨StI.mk' hg d.hl trivial e F (KS.refl _),.inl ?_⟩;rw[e,u];exact⟨_,_,rfl,rfl,zM C,⟨rfl,c,L,rfl⟩,by simp[Wam,hv]⟩
 | cons v vs=>
  have u:Wt H t (.central k w)=({H.setA (H.own t) (YO (H.arn t) (k:Int) (w:Int))with ths:=H.ths.set t {g with hands:=[(k,(v::vs).map λ(x:Nat)=>(x:Int))]}},some .fill,0,0):=by
   simp only[Wt,hv,QP];rw[zA aA,ZM (g:=g) (by exact hg),G];rfl
  have e:=Z3 (H1:=H.setA (H.own t) (YO (H.arn t) (k:Int) (w:Int))) C u;rw[hv]at wi i r;have m:((v::vs).map λ(x:Nat)=>(x:Int)).Nodup:=List.Pairwise.map (R:=(· ≠ ·)) _ (λa b E e=>E O) r;have app:=Wl2 (held:=held) (new:=(v::vs).map λy=>(⟨H.own t,(k:Int),y,szOf H.tb (k:Int),false⟩:Pc)) (cl:=(k:Int)) (l:=(v::vs).map λ(x:Nat)=>(x:Int)) (λp j=>by
   obtain⟨y,A,rfl⟩:=zD.1 j;exact⟨rfl,rfl,zD.2 ⟨y,A,rfl⟩⟩) λx S=>by
   obtain⟨y,A,rfl⟩:=zD.1 S;exact⟨_,zD.2 ⟨y,A,rfl⟩,rfl⟩
  have new:=WjL wi;have F:=h.upd hg (g':={g with hands:=[(k,(v::vs).map λ(x:Nat)=>(x:Int))],ph:=some .fill}) (live':=H.live) wi h.sim rfl (by simp[Wd.put]) (WiI wi) (λN y=>by
   rw[We3 m (λy A=>by
    obtain⟨z,P,rfl⟩:=zD.1 A;exact new ⟨H.own t,(k:Int),z,szOf H.tb (k:Int),false⟩ (zD.2 ⟨z,P,rfl⟩) _) app]
   unfold cnT;rw[hph,G];simp only[cnP,Kx,VH];omega) h.lk (λQ D=>.inl D) (λs a j=>by cases j) ⟨d.ll,d.lo,λb hb=>by
    simp only[zW]at hb;subst hb;exact⟨J,by simp,by simp at i ⊢;omega⟩,by simp,by
    unfold PhI;exact⟨k,(v:Int),vs.map λ(x:Nat)=>(x:Int),rfl,J,B,by simp at i ⊢;omega⟩⟩
  refine⟨StI.mk' hg d.hl trivial e F (KS.refl _),.inl ?_⟩;rw[e,u];refine⟨_,_,rfl,rfl,zM C,⟨k,_,[],c,rfl,rfl,L,rfl⟩,?_⟩;simp[Wam,hv]
theorem WnQ (h:HI H held s0)(hg:H.ths[t]?=some g){w:Nat}(hph:g.ph=some (.grow k w)){cl sz:Int}(hr:Rq H.tb g (.grow k w) cl sz):StI H t (.grow k w)/\EfM H t (.grow k w) cl sz:=by
 have z:=(gSi.1 hg).1;have b:=h.th g (h.mem hg);obtain⟨E,L,B,D⟩:g.hands=[]/\k<H.tb.length/\(g.li k).os=[]/\1<=w/\w<=32:=by have:=b.ph;unfold PhI at this;rw[hph]at this;exact this
 obtain⟨rfl,c,J,rfl⟩:=hr;have A:=h.arn t;have ga:=h.wi.ga _ _ A;obtain⟨C,M,F,r⟩:=h.sim.growS (H.arn t) (k:Int);have wi:=h.wi.grow A (k:Int);by_cases h0:KO (H.arn t) H.sp (k:Int)=0
 ·have m:Wt H t (.grow k w)=({{H.setA (H.own t) (growS (H.arn t) H.sp (k:Int)).1 with sp:=(growS (H.arn t) H.sp (k:Int)).2}with ths:=H.ths.set t g},some (.central k w),0,0):=by
   have:H.ths.set t g=H.ths:=Ql hg;rw[this];simp only[Wt,h0,zT,Hw.setA]
  have e:=Z3 (H1:={H.setA (H.own t) (growS (H.arn t) H.sp (k:Int)).1 with sp:=(growS (H.arn t) H.sp (k:Int)).2}) z m;have d:=Wit ga (h.wi.ow _ _ A) (j:=k) (by rw[←M];exact h0) D.1;rw[show(Wd.mk H.tb s0 H.ars held).sp=s0 from rfl,←C]at d;rw[show(Wd.mk H.tb s0 H.ars held).sp=s0 from rfl,←C]at wi;have u:=h.upd hg (g':={g with ph:=some (.central k w)}) (live':=H.live) wi F r.l (by simp[Wd.put]) (λp i _=>.inl i) (λG y=>by
   unfold cnT;rw[hph];simp only[cnP]) h.lk (λK x=>.inl x) (λs a i=>by cases i) ⟨b.ll,b.lo,b.hb,b.hl,by
    unfold PhI;exact⟨E,L,B,D⟩⟩
  refine⟨StI.mk' hg b.hl trivial e u r,.inl ?_⟩;rw[e,m];refine⟨_,_,rfl,rfl,zM z,⟨rfl,c,J,rfl⟩,?_⟩;have:=WkB H t (growS (H.arn t) H.sp (k:Int)).1 (h.own_lt t) (growS (H.arn t) H.sp (k:Int)).2 (H.ths.set t {g with ph:=some (.central k w)});simp only[Wam];rw[this,zA d];omega
 ·have m:Wt H t (.grow k w)=({{H.setA (H.own t) (growS (H.arn t) H.sp (k:Int)).1 with sp:=(growS (H.arn t) H.sp (k:Int)).2}with ths:=H.ths.set t g},none,0,KO (H.arn t) H.sp (k:Int)):=by
   have:H.ths.set t g=H.ths:=Ql hg;rw[this];simp only[Wt,h0,zu,Hw.setA]
  have e:=Z3 (H1:={H.setA (H.own t) (growS (H.arn t) H.sp (k:Int)).1 with sp:=(growS (H.arn t) H.sp (k:Int)).2}) z m;rw[show(Wd.mk H.tb s0 H.ars held).sp=s0 from rfl,←C]at wi;have u:=h.upd hg (g':={g with ph:=none}) (live':=H.live) wi F r.l (by simp[Wd.put]) (λp i _=>.inl i) (λG y=>by
   unfold cnT;rw[hph];simp only[cnP]) h.lk (λK x=>.inl x) (λs a i=>by cases i) ⟨b.ll,b.lo,b.hb,b.hl,by
    unfold PhI;exact E⟩
  refine⟨StI.mk' hg b.hl trivial e u r,.inr (.inl ?_)⟩;rw[e,m];exact⟨rfl,h0,rfl,rfl⟩
theorem WmJ (h:HI H held s0)(hg:H.ths[t]?=some g)(hph:g.ph=some .fill){cl sz:Int}(hr:Rq H.tb g .fill cl sz):StI H t .fill/\EfM H t .fill cl sz:=by
 have Q:=(gSi.1 hg).1;have d:=h.th g (h.mem hg);obtain⟨k,x,xs,w,K,j,L⟩:∃k x xs,g.hands=[(k,x::xs)]/\k<H.tb.length/\(g.li k).os=[]/\xs.length<=128:=by have:=d.ph;unfold PhI at this;rw[hph]at this;exact this
 obtain⟨k',V,r,c,A,rfl,G,rfl⟩:=hr;rw[w]at A;obtain⟨i, -⟩:=List.cons.inj A;obtain rfl:k=k':=congrArg Prod.fst i;obtain⟨l,hl,u,E,R⟩:=d.li K;have p:=GK hg;rw[u]at j;have m:(addL xs.reverse l).os=xs.reverse:=by unfold addL;rw[j,zA aE];simp
 have J:Wt H t .fill=({{H with live:=mset H.live x (x,(c.size:Int),(k:Int),YJ H.ars x)}with ths:=H.ths.set t {ls:=g.ls.set k (addL xs.reverse l),hands:=[],ph:=g.ph}},none,x,0):=by
  simp only[Wt,p,w,Ua G,VF,ZM hg,u]
 have e:=Z3 Q J;have z:1<=cnT g (k:Int) x:=by
  unfold cnT;rw[w,Kx,zB rfl];have:1<=(x::xs).count x:=zGY.2 aA;simp only;omega
 have F:=h.um_t (h.mem hg) z;have C:=h.not_live (h.mem hg) z;obtain⟨M,S⟩:=d.setL (k:=k) (WcA (xs:=xs.reverse) E) (by rw[m];simp;omega);have N:=h.updT hg (g':={ls:=g.ls.set k (addL xs.reverse l),hands:=[],ph:=none}) (live':=mset H.live x (x,(c.size:Int),(k:Int),YJ H.ars x)) (λk' y=>by
  rw[Wb3 _ C];have D:=G4 hl (addL xs.reverse l) k' y;rw[j,m,List.count_reverse,List.count_nil]at D;have X:(x::xs).count y=[x].count y+xs.count y:=zEF (l₁:=[x]) (l₂:=xs);unfold cnT;rw[hph,w];simp only[cnP,Kx,VH];by_cases i:(k:Int)=k'
  ·simp only[i,zT]at D ⊢;omega
  ·simp only[i,zu]at D ⊢;omega)
  (Go.Vc.mset_keys h.lk) (λW B=>by
   rcases(Wb8 C).1 B with B|rfl
   ·exact .inl B
   ·exact .inr (h.lvOf F G))
  (λs a U=>by cases U) ⟨M,S,λb P=>by simp at P,by simp,by unfold PhI;rfl⟩
 refine⟨StI.mk' hg d.hl ⟨k,x,xs,[],by rw[p];exact w,K,(h.i63 F).1,by rw[p,u,j];simp;omega⟩ e N (KS.refl _),.inr (.inr ?_)⟩;rw[e,J];exact⟨rfl,rfl,C,rfl⟩
theorem Wlf (h:HI H held s0)(hg:H.ths[t]?=some g){m:Nat}(hph:g.ph=some (.large m)){cl sz:Int}(hr:Rq H.tb g (.large m) cl sz):StI H t (.large m)/\EfM H t (.large m) cl sz:=by
 have L:=(gSi.1 hg).1;have b:=h.th g (h.mem hg);obtain⟨M,X,U⟩:g.hands=[]/\1<=m/\m<=64:=by have:=b.ph;unfold PhI at this;rw[hph]at this;exact this
 obtain⟨rfl,rfl⟩:=hr;have K:=h.arn t;have ga:=h.wi.ga _ _ K;obtain⟨Y,S,Q,P,B⟩:=h.sim.takeAS (H.arn t) (m:Int) 1;have wi:=h.wi.takeP K (m:Int) 1;rw[show(Wd.mk H.tb s0 H.ars held).sp=s0 from rfl,←Y,←S,←Q]at wi;by_cases h0:Qz (H.arn t) H.sp (m:Int) 1=0
 ·rw[zB h0]at wi;have j:=WjL wi;have w:=Wl2 (held:=held) (new:=[(⟨H.own t, -1,Z5 (H.arn t) H.sp (m:Int) 1*256,(m:Int).toNat*256,false⟩:Pc)]) (cl:=-1) (l:=[((Z5 (H.arn t) H.sp (m:Int) 1*256:Nat):Int)]) (λp d=>by
   simp only[zW]at d;subst d;exact⟨rfl,rfl,by simp⟩) λx D=>by
   simp only[zW]at D;subst D;exact⟨_,zW.2 rfl,rfl⟩
  have i:(⟨H.own t, -1,Z5 (H.arn t) H.sp (m:Int) 1*256,(m:Int).toNat*256,false⟩:Pc)∈held++[(⟨H.own t, -1,Z5 (H.arn t) H.sp (m:Int) 1*256,(m:Int).toNat*256,false⟩:Pc)]:=by simp
  have F:=wi.size_pos i;have A:=wi.addr_lt i;have E:=wi.owner i (x:=Z5 (H.arn t) H.sp (m:Int) 1*256) (zC _) (by simp only at F ⊢;omega);generalize C:Z5 (H.arn t) H.sp (m:Int) 1=V at *;have r:mget H.live ((V*256:Nat):Int)=none:=h.not_um λG R=>j _ (zW.2 rfl) G R;have z:Wt H t (.large m)=({{H.setA (H.own t) (takeAS (H.arn t) H.sp (m:Int) 1).1 with sp:=(takeAS (H.arn t) H.sp (m:Int) 1).2,live:=mset H.live ((V*256:Nat):Int) (((V*256:Nat):Int),((m*256:Nat):Int), -1,YJ (H.ars.set (H.own t) (takeAS (H.arn t) H.sp (m:Int) 1).1) ((V*256:Nat):Int))}with ths:=H.ths.set t g},none,((V*256:Nat):Int),0):=by
   have:H.ths.set t g=H.ths:=Ql hg;rw[this];simp only[Wt,h0,zT,Hw.setA,VF,C]
  have e:=Z3 (H1:={H.setA (H.own t) (takeAS (H.arn t) H.sp (m:Int) 1).1 with sp:=(takeAS (H.arn t) H.sp (m:Int) 1).2,live:=mset H.live ((V*256:Nat):Int) (((V*256:Nat):Int),((m*256:Nat):Int), -1,YJ (H.ars.set (H.own t) (takeAS (H.arn t) H.sp (m:Int) 1).1) ((V*256:Nat):Int))}) L z;have J:=h.upd hg (g':={g with ph:=none}) (live':=mset H.live ((V*256:Nat):Int) (((V*256:Nat):Int),((m*256:Nat):Int), -1,YJ (H.ars.set (H.own t) (takeAS (H.arn t) H.sp (m:Int) 1).1) ((V*256:Nat):Int))) wi P B.l (by simp[Wd.put]) (WiI wi) (λG y=>by
   rw[Wb3 _ r,We3 (l:=[((V*256:Nat):Int)]) (cl:=-1) aA (λy N=>by
    simp only[zW]at N;subst N;exact j _ (zW.2 rfl) _) w]
   unfold cnT;rw[hph];simp only[cnP];omega) (Go.Vc.mset_keys h.lk) (λW u=>by
    rcases(Wb8 r).1 u with u|rfl
    ·exact .inl u
    ·refine .inr ⟨rfl,_,i,rfl,rfl,rfl,?_,?_⟩
     ·simp
     ·exact E) (λs a d=>by cases d) ⟨b.ll,b.lo,b.hb,b.hl,by
    unfold PhI;exact M⟩
  refine⟨StI.mk' hg b.hl ?_ e J B,.inr (.inr ?_)⟩
  ·show Z5 (H.arn t) H.sp (m:Int) 1<=1000000;rw[C];simp only at A;omega
  ·rw[e,z];exact⟨rfl,rfl,r,rfl⟩
 ·rw[zA h0]at wi;have C:Z5 (H.arn t) H.sp (m:Int) 1=0:=by
   unfold Qz at h0;unfold Z5;split
   ·rename_i d;rw[d,zB rfl]at h0;split at h0
    ·exact(h0 rfl).elim
    ·rename_i hn;cases D:(getA (H.arn t) H.sp (m:Int).toNat (1:Int).toNat 41).1 with
     | none=>rfl
     | some y=>rw[D]at hn;simp at hn
   ·rfl
  have z:Wt H t (.large m)=({{H.setA (H.own t) (takeAS (H.arn t) H.sp (m:Int) 1).1 with sp:=(takeAS (H.arn t) H.sp (m:Int) 1).2}with ths:=H.ths.set t g},none,0,Qz (H.arn t) H.sp (m:Int) 1):=by
   have:H.ths.set t g=H.ths:=Ql hg;rw[this];simp only[Wt,h0,zu,Hw.setA]
  have e:=Z3 (H1:={H.setA (H.own t) (takeAS (H.arn t) H.sp (m:Int) 1).1 with sp:=(takeAS (H.arn t) H.sp (m:Int) 1).2}) L z;have J:=h.upd hg (g':={g with ph:=none}) (live':=H.live) wi P B.l (by simp[Wd.put]) (λp d _=>.inl d) (λG y=>by
   unfold cnT;rw[hph];simp only[cnP]) h.lk (λW u=>.inl u) (λs a d=>by cases d) ⟨b.ll,b.lo,b.hb,b.hl,by
    unfold PhI;exact M⟩
  refine⟨StI.mk' hg b.hl ?_ e J B,.inr (.inl ?_)⟩
  ·show Z5 (H.arn t) H.sp (m:Int) 1<=1000000;rw[C];omega
  ·rw[e,z];exact⟨rfl,h0,rfl,rfl⟩
theorem Wob {W:Wd}(h:WI W)(hk:W.ars[k]?=some A){j:Nat}{l:List Int}(hl:∀x∈l,∃p∈W.held,isAt k (j:Int) x p=true)(hn:l.Nodup)(hj:j<W.tb.length):QW A (j:Int) l=0/\WI (W.put k (Zg A (j:Int) l) W.sp (W.held.filter λp=>!isOf k (j:Int) l p)):=by
 have ga:=h.ga k A hk;have g:ownW W.held k (j:Int) l=true:=KD.2 ⟨hl,hn⟩;obtain⟨c,y,_,e,_⟩:=ga.cl (k:=j) (by rw[h.tb k A hk];exact hj);have d:QW A (j:Int) l=0:=by
  rw[H7 ga e];refine Whj ⟨λx s=>?_,hn⟩;obtain⟨p,u,b⟩:=hl x s;obtain⟨i,r,m,w⟩:=KC.1 b;obtain⟨_,_,_,a,_⟩:=h.cls u r (by rw[i];exact hk);rw[m]at a;exact(KQ e).1 a
 refine⟨d,?_⟩;have:=h.toC hk g;rw[zB d,h.drp g]at this;exact this
theorem Wc0 {xs:List Int}{tb:List Cls}{ars0:List AR}(hH:H.tb=tb)(h:WI ⟨tb,s0,H.ars,held⟩)(hk:k<tb.length)(hxs:∀x∈xs,Um held (k:Int) x)(hn:xs.Nodup)(ha:∀p∈held,YJ ars0 (p.addr:Int)=(p.k:Int)):∀j,j<=H.ars.length →
 ∃ars',Vg H k (ZW ars0 xs) (List.range j) = {H with ars:=ars'}/\ars'.length=H.ars.length/\WI ⟨tb,s0,ars',held.filter λp=>!(decide (p.k<j)&&(p.cls==(k:Int)&&xs.contains (p.addr:Int)))⟩
 | 0,_=>by
  refine⟨H.ars,rfl,rfl,?_⟩;have:(held.filter λp=>!(decide (p.k<0)&&(p.cls==(k:Int)&&xs.contains (p.addr:Int))))=held:=zBL.2 λp _=>by simp
  rw[this];exact h
 | j+1,hj=>by
  obtain⟨ars',e,s,m⟩:=Wc0 hH h hk hxs hn ha j O;rw[Ve,e];have r:ars'[j]?=some (ars'[j]' O):=gGe _;simp only[r];have Wcc:∀{p:Pc},p∈held->p.k=j->((p.addr:Int)∈ZW ars0 xs j↔(p.addr:Int)∈xs):=λ{p} b a=>by
   unfold ZW;rw[zH,ha p b,a];simp
  have d:((held.filter λp=>!(decide (p.k<j)&&(p.cls==(k:Int)&&xs.contains (p.addr:Int)))).filter λp=>!isOf j (k:Int) (ZW ars0 xs j) p)=held.filter λp=>!(decide (p.k<j+1)&&(p.cls==(k:Int)&&xs.contains (p.addr:Int))):=by
   rw[zGD];apply zFG;intro p b;have B:isOf j (k:Int) (ZW ars0 xs j) p=(p.k==j&&(p.cls==(k:Int)&&xs.contains (p.addr:Int))):=by
    unfold isOf;by_cases a:p.k=j
    ·have:=Wcc b a;have A:(ZW ars0 xs j).contains (p.addr:Int)=xs.contains (p.addr:Int):=by
      rw[zBD,zDC,zDC];exact this
     rw[A]
    ·have:(p.k==j)=false:=by simpa using a
     rw[this];rfl
   rw[B];have C:decide (p.k<j+1)=(decide (p.k<j)||p.k==j):=by
    rw[zBD];simp;omega
   rw[C];cases p.k==j<;>cases decide (p.k<j)<;>cases(p.cls==(k:Int)&&xs.contains (p.addr:Int))<;>rfl
  by_cases b:ZW ars0 xs j=[]
  ·rw[zB b];refine⟨ars',rfl,s,?_⟩;rw[←d,b];have:∀p:Pc,(!isOf j (k:Int) [] p)=true:=λp=>by simp[isOf]
   rw[zBL.2 λp _=>this p];exact m
  ·rw[zA b];refine⟨ars'.set j (Zg (ars'[j]' O) (k:Int) (ZW ars0 xs j)),by simp[Hw.setA],by simp[s],?_⟩;rw[←d];refine(Wob m r (j:=k) (l:=ZW ars0 xs j) (λx u=>?_) (hn.sublist zCS) hk).2;unfold ZW at u;obtain⟨i,g⟩:=zH.1 u;obtain⟨p,b,z,y,w⟩:=hxs x i;have a:p.k=j:=by
    have:=ha p b;rw[w]at this;rw[this]at g;have:(p.k:Int)=(j:Int):=by simpa using g
    omega
   exact⟨p,zH.2 ⟨b,by simp[a]⟩,KC.2 ⟨a,y,w,z⟩⟩
theorem Wk5 {tb:List Cls}(hH:H.tb=tb)(h:WI ⟨tb,s0,H.ars,held⟩){own:Nat}(hown:own<H.ars.length)(hk:k<tb.length){xs:List Int}(hxs:∀x∈xs,Um held (k:Int) x)(hn:xs.Nodup) :
 ∃ars' held',HT H own k xs = {H with ars:=ars'}/\ars'.length=H.ars.length/\WI ⟨tb,s0,ars',held'⟩/\(∀c x,Um held' c x↔Um held c x/\¬(c=(k:Int)/\x∈xs))/\∀p∈held',p.moved=false->p∈held:=by
 have m:H.ars[own]?=some H.ars[own]:=gGe hown;have y:∀p∈held,YJ H.ars (p.addr:Int)=(p.k:Int):=λp a=>h.owner a (zC _) (by have:=(h.size_pos a).1;omega);have all:∃ars' held',Vg H k (ZW H.ars xs) (List.range H.ars.length) = {H with ars:=ars'}/\ars'.length=H.ars.length/\WI ⟨tb,s0,ars',held'⟩/\(∀c x,Um held' c x↔Um held c x/\¬(c=(k:Int)/\x∈xs))/\∀p∈held',p.moved=false->p∈held:=by
  obtain⟨ars',e,r,j⟩:=Wc0 hH h hk hxs hn y H.ars.length (zC _);refine⟨ars',_,e,r,j,λc x=>?_,λp a _=>(zH.1 a).1⟩;constructor
  ·rintro⟨p,a,i,g,d⟩;obtain⟨a,hf⟩:=zH.1 a;refine⟨⟨p,a,i,g,d⟩,?_⟩;rintro⟨rfl,b⟩;obtain⟨B,C,_⟩:=h.hf p a;have s:p.k<H.ars.length:=(gSi.1 C).1;rw[g,d]at hf;simp[s,b]at hf
  ·rintro⟨⟨p,a,i,g,d⟩,hno⟩;refine⟨p,zH.2 ⟨a,?_⟩,i,g,d⟩;rw[g,d];by_cases hc:c=(k:Int)
   ·have:x∉xs:=λb=>hno ⟨hc,b⟩;simp[this]
   ·simp[hc]
 unfold HT;rw[m];simp only;by_cases hcond:(ZW H.ars xs own).length=xs.length/\Vi H.ars[own] (k:Int) xs=true
 ·rw[zB hcond];have u:∀x∈xs,YJ H.ars x=(own:Int):=by
   have i:ZW H.ars xs own=xs:=by
    unfold ZW at hcond ⊢;exact List.filter_sublist.eq_of_length hcond.1
   intro x b;rw[←i]at b;unfold ZW at b;simpa using(zH.1 b).2
  have w:ownW held own (k:Int) xs=true:=KD.2 ⟨λx b=>by
   obtain⟨p,a,i,g,d⟩:=hxs x b;have A:=y p a;rw[d,u x b]at A;exact⟨p,a,KC.2 ⟨O,g,d,i⟩⟩,hn⟩
  have j:=h.toT m w;rw[zB hcond.2]at j;exact⟨_,_,rfl,by simp[Hw.setA],j,WkR h w,WiH⟩
 ·rw[zA hcond];have e:(if(ZW H.ars xs own).length=xs.length then H.setA own (Q9 H.ars[own] (k:Int) xs)else H)=H:=by
   split
   ·rename_i r;have z:Vi H.ars[own] (k:Int) xs=false:=by
     apply zAU.2;intro b;exact hcond ⟨r,b⟩
    have:Q9 H.ars[own] (k:Int) xs=H.ars[own]:=by unfold Q9;rw[z];rfl
    rw[this];exact WdC m
   ·rfl
  rw[e];exact all
def isF:Ph->Prop
 | .find _=>True
 | .put _ _=>True
 | .back=>True
 | .give _ _=>True
 | .drain=>True
 | _=>False
def Wbp (g:Th):Ph->Nat
 | .find _=>101
 | .put _ _=>100
 | .drain=>100
 | .back=>g.hands.length
 | _=>0
def EfF (H:Hw)(t:Nat)(g:Th)(p:Ph):Prop:=(Wt H t p).2.2.1=0 ∧
 ((∃p' g',(Wt H t p).2.1=some p'/\isF p'/\(∀x,p'≠.find x)/\(QO H t p).ths[t]?=some g'/\Wbp g' p'<Wbp g p)\/(Wt H t p).2.1=none) ∧
 ((∀x,p≠.find x)->(Wt H t p).2.2.2=0/\(QO H t p).live=H.live) ∧
 (∀x,p=.find x->(mget H.live x=none->(Wt H t p).2.1=none/\(Wt H t p).2.2.2≠0/\(QO H t p).live=H.live)/\(∀b,mget H.live x=some b->(Wt H t p).2.2.2=0/\(QO H t p).live=mdel H.live x))
theorem WeU (hg:H.ths[t]?=some g):retH H t=if g.hands=[]then none else some .back:=by unfold retH;rw[hg]
theorem WmO (h:HI H held s0)(hg:H.ths[t]?=some g){x:Int}(hph:g.ph=some (.find x)):StI H t (.find x)/\EfF H t g (.find x):=by
 have J:=(gSi.1 hg).1;have d:=h.th g (h.mem hg);obtain⟨N,C⟩:g.hands=[]/\I63 x:=by have:=d.ph;unfold PhI at this;rw[hph]at this;exact this
 have R:∀A∈H.ars,RunsOk A:=λA Q=>by
  obtain⟨j,hj⟩:=zN Q;exact(h.wi.ga j A hj).runsOk
 cases hm:mget H.live x with
 | none=>
  have w:Wt H t (.find x)=({H with ths:=H.ths.set t g},none,0,whyH H x):=by
   have:H.ths.set t g=H.ths:=Ql hg;rw[this];simp only[Wt,UZ,hm]
  have e:=Z3 J w;have G:=h.updT hg (g':={g with ph:=none}) (live':=H.live) (λF x=>by
   unfold cnT;rw[hph];simp only[cnP]) h.lk (λZ E=>.inl E) (λs a P=>by cases P) ⟨d.ll,d.lo,d.hb,d.hl,by
    unfold PhI;exact N⟩
  refine⟨StI.mk' hg d.hl ⟨C,λ_=>R,λb hb=>by rw[hm]at hb;cases hb⟩ e G (KS.refl _),?_⟩;unfold EfF;rw[e,w];refine⟨rfl,.inr rfl,λi=>(i x rfl).elim,λy m=>?_⟩;cases m;refine⟨λ_=>⟨rfl,?_,rfl⟩,(λb hb=>by rw[hm]at hb;cases hb)⟩;show whyH H x≠0;unfold whyH
  repeat' split
  all_goals simp
 | some b=>
  have U:=KV hm;obtain⟨_,p,P,h1,V,W,h4,Y⟩:=h.lv _ U;simp only at V W h4 Y;have S:0<=x:=by omega
  obtain⟨A,Q,hd⟩:=h.wi.hf p P;have X:WgX H t (.find x):=⟨C,(λi=>by rw[hm]at i;cases i),λ_ _=>S⟩;rcases hd with⟨c1,_,r,hr,c2,c3⟩|⟨j,c,c1,c2,c3,_⟩
  ·have D:b.2.2.1 = -1:=by rw[←V,c1]
   have w:Wt H t (.find x)=({{H with live:=mdel H.live x}with ths:=H.ths.set t g},some (.give (x/256) b.2.2.2),0,0):=by
    have:H.ths.set t g=H.ths:=Ql hg;rw[this];simp only[Wt,UZ,hm];rw[zB O]
   have e:=Z3 (H1:={H with live:=mdel H.live x}) J w;have u:x/256*256=x:=by omega
   have G:=h.updT hg (g':={g with ph:=some (.give (x/256) b.2.2.2)}) (live':=mdel H.live x) (λF y=>by
    have z:=Wch h.lk hm F y;rw[D]at z;unfold cnT;rw[hph];simp only[cnP,u];by_cases m:x=y
    ·subst m;rw[zGZ]at z;by_cases hk : -1=F
     ·rw[zB hk]at z;rw[zB ⟨hk.symm,rfl⟩];omega
     ·rw[zA hk]at z;rw[zA (λC=>hk C.1.symm)];omega
    ·have:[x].count y=0:=zEY.2 aE;rw[this]at z;rw[zA (λC=>m C.2.symm)];split at z<;>omega)
    (Go.Vc.mdel_keys h.lk) (λZ E=>.inl (Wcv.1 E).1) (λs a B=>by
     cases B;exact⟨p,P,h1,c1,by rw[u];exact W,Y⟩) ⟨d.ll,d.lo,d.hb,d.hl,by
      unfold PhI;exact N⟩
   refine⟨StI.mk' hg d.hl X e G (KS.refl _),?_⟩;unfold EfF;rw[e,w];refine⟨rfl,.inl ⟨_,_,rfl,trivial,(λy m=>by cases m),zM J,by simp[Wbp]⟩,λi=>(i x rfl).elim,λy m=>?_⟩;cases m;exact⟨(λi=>by rw[hm]at i;cases i),λ_ _=>⟨rfl,rfl⟩⟩
  ·have M:b.2.2.1=(j:Int):=by rw[←V,c1]
   have K:j<H.tb.length:=by
    rw[h.wi.tb _ _ Q]at c2;exact(gSi.1 c2).1
   have w:Wt H t (.find x)=({{H with live:=mdel H.live x}with ths:=H.ths.set t {g with hands:=[(j,[x])]}},some (.put j x),0,0):=by
    simp only[Wt,UZ,hm];rw[zA O,M,iTn];unfold QP;rw[ZM (g:=g) (by exact hg),N];rfl
   have e:=Z3 (H1:={H with live:=mdel H.live x}) J w;have G:=h.updT hg (g':={g with hands:=[(j,[x])],ph:=some (.put j x)}) (live':=mdel H.live x) (λF y=>by
    have z:=Wch h.lk hm F y;rw[M]at z;unfold cnT;rw[hph,N];simp only[cnP,Kx,VH];omega)
    (Go.Vc.mdel_keys h.lk) (λZ E=>.inl (Wcv.1 E).1) (λs a B=>by cases B) ⟨d.ll,d.lo,λb' L=>by
     simp only[zW]at L;subst L;exact⟨K,by simp,by simp⟩,by simp,by
     unfold PhI;exact⟨rfl,K⟩⟩
   refine⟨StI.mk' hg d.hl X e G (KS.refl _),?_⟩;unfold EfF;rw[e,w];refine⟨rfl,.inl ⟨_,_,rfl,trivial,(λy m=>by cases m),zM J,by simp[Wbp]⟩,λi=>(i x rfl).elim,λy m=>?_⟩;cases m;exact⟨(λi=>by rw[hm]at i;cases i),λ_ _=>⟨rfl,rfl⟩⟩
theorem Wf5 {f:Cls->Li->List Int×Li}{tb:List Cls}{ls:List Li}{b:Bt}(h:b∈Ka f tb ls):b.1<tb.length/\b.2≠[]/\∃c∈tb,∃l∈ls,b.2=(f c l).1:=by
 unfold Ka at h;obtain⟨k,d,a⟩:=zEO.1 h;split at a
 ·rename_i c l hc hl;split at a
  ·cases a
  ·cases a;exact⟨zV.1 d,by assumption,c,zE hc,l,zE hl,rfl⟩
 ·cases a
theorem Wfn {f:Cls->Li->List Int×Li}{tb:List Cls}{ls:List Li}{l':Li}(h:l'∈Q6 f tb ls):∃c∈tb,∃l∈ls,l'=(f c l).2:=by
 unfold Q6 at h;obtain⟨i,a⟩:=zN h;rw[zGV]at a;split at a
 ·rename_i c l hc hl;cases a;exact⟨c,zE hc,l,zE hl,rfl⟩
 ·cases a
theorem WfJ {f:Cls->Li->List Int×Li}{tb:List Cls}{ls:List Li}(h:ls.length=tb.length):(Q6 f tb ls).length=tb.length:=by
 unfold Q6;rw[List.length_zipWith];omega
theorem Wf8 (c:Cls)(l:Li):(KK c l).2.os.length<=l.os.length/\(KK c l).1.length<=l.os.length:=by
 simp only[KK,oldL,zr,zO];omega
theorem Wd3 (c:Cls)(l:Li):(ZX c l).2.os.length<=l.os.length/\(ZX c l).1.length<=l.os.length:=by
 simp only[ZX,oldL,zr,zO];omega
theorem Wli (h:HI H held s0)(hg:H.ths[t]?=some g)(hph:g.ph=some .drain):StI H t .drain/\EfF H t g .drain:=by
 have m:=(gSi.1 hg).1;have d:=h.th g (h.mem hg);have E:g.hands=[]:=by have:=d.ph;unfold PhI at this;rw[hph]at this;exact this
 have A:=h.tb40;have F:=WaM ZX H.tb g.ls;have u:Wt H t .drain=({H with ths:=H.ths.set t {g with ls:=Q6 ZX H.tb g.ls,hands:=Ka ZX H.tb g.ls}},(if Ka ZX H.tb g.ls=[]then none else some .back),0,0):=by
  simp only[Wt,ZM hg];rw[WeU (g:={g with ls:=Q6 ZX H.tb g.ls,hands:=Ka ZX H.tb g.ls}) (by simp[m])]
 have e:=Z3 m u;have B:=h.updT hg (g':={ls:=Q6 ZX H.tb g.ls,hands:=Ka ZX H.tb g.ls,ph:=if Ka ZX H.tb g.ls=[]then none else some .back}) (live':=H.live) (λr x=>by
  have M:=cnF (f:=ZX) Wh8 d.ll r x;unfold cnT;rw[hph,E];have:cnP (if Ka ZX H.tb g.ls=[]then none else some Ph.back) r x=0:=by split<;>rfl
  simp only[this,VH];simp only[cnP];omega) h.lk (λL z=>.inl z) (λs a p=>by
   simp only at p;split at p<;>cases p) ⟨WfJ d.ll,λl hl=>by
   obtain⟨c,_,j,i,rfl⟩:=Wfn hl;have:=d.lo j i;have:=Wd3 c j;exact⟨Whp (d.lo j i).1,O⟩,λb C=>by
   obtain⟨w,J,c,_,j,i,D⟩:=Wf5 C;have:=d.lo j i;have:=Wd3 c j;exact⟨w,J,by rw[D];omega⟩,by simp only;omega,by
   unfold PhI;by_cases ho:Ka ZX H.tb g.ls=[]
   ·rw[zB ho];exact ho
   ·rw[zA ho];exact ho⟩
 refine⟨StI.mk' hg d.hl trivial e B (KS.refl _),?_⟩;unfold EfF;rw[e,u];refine⟨rfl,?_,λ_=>⟨rfl,rfl⟩,λx K=>by cases K⟩;by_cases ho:Ka ZX H.tb g.ls=[]
 ·exact .inr (by simp only;rw[zB ho])
 ·exact .inl ⟨.back,_,by simp only;rw[zA ho],trivial,(λy G=>by cases G),zM m,by simp only[Wbp];omega⟩
theorem Wmr (h:HI H held s0)(hg:H.ths[t]?=some g){s a:Int}(hph:g.ph=some (.give s a)):StI H t (.give s a)/\EfF H t g (.give s a):=by
 have R:=(gSi.1 hg).1;have b:=h.th g (h.mem hg);have U:g.hands=[]:=by have:=b.ph;unfold PhI at this;rw[hph]at this;exact this
 obtain⟨p,C,h1,V,Y,W⟩:=h.gv g (h.mem hg) s a hph;obtain⟨A,u,_⟩:=h.wi.hf p C;have w:H.ars[p.k]?=some A:=u;have S:=(gSi.1 w).1;obtain⟨_,r,G,X,c3⟩:=h.wi.run C V u;have ga:=h.wi.ga _ _ u;have d:s=(r.1:Int):=by omega
 have Q:KR A s=0:=by
  unfold KR;rw[zB];unfold Wbi;rw[zGO];exact⟨r,G,by simp[d]⟩
 have F:ownW held p.k (-1) [s*256]=true:=by rw[d];exact h.wi.giveOwn u G
 have wi:=h.wi.giveP u s;rw[zB Q,h.wi.drp F]at wi;have m:a.toNat=p.k:=by omega
 have J:Wt H t (.give s a)=({H.setA p.k (QH A s)with ths:=H.ths.set t g},none,0,0):=by
  have:H.ths.set t g=H.ths:=Ql hg;rw[this];simp only[Wt,m,w,Hw.setA]
 have e:=Z3 (H1:=H.setA p.k (QH A s)) R J;have N:=h.upd hg (g':={g with ph:=none}) (live':=H.live) wi h.sim rfl (by simp[Wd.put]) (λq D _=>.inl (zH.1 D).1) (λy x=>by
  have i:=Whf (held':=held.filter λE=>!isOf p.k (-1) [s*256] E) (l:=[s*256]) (cl:=-1) aA (Woo F) (Wm7 h.wi F) y x;have i:cnW held y x=cnW (held.filter λE=>!isOf p.k (-1) [s*256] E) y x+(if -1=y then[s*256].count x else 0):=i
  unfold cnT;rw[hph];simp only[cnP];by_cases hy:s*256=x
  ·subst hy;rw[zGZ]at i;by_cases hk : -1=y
   ·rw[zB hk]at i;rw[zB ⟨hk.symm,rfl⟩];omega
   ·rw[zA hk]at i;rw[zA (λz=>hk z.1.symm)];omega
  ·have:[s*256].count x=0:=zEY.2 aE;rw[this]at i;rw[zA (λz=>hy z.2.symm)];split at i<;>omega) h.lk (λZ L=>.inl L) (λs a C=>by cases C) ⟨b.ll,b.lo,b.hb,b.hl,by
   unfold PhI;exact U⟩
 refine⟨StI.mk' hg b.hl ⟨O,O,λB M q D=>?_⟩ e N (KS.refl _),?_⟩
 ·obtain⟨j,P⟩:=zN M;have K:=h.wi.ga j B P;have:=K.fit D;have:=K.pg.n2;omega
 ·unfold EfF;rw[e,J];exact⟨rfl,.inr rfl,λ_=>⟨rfl,rfl⟩,λx z=>by cases z⟩
theorem WnA (h:HI H held s0)(hg:H.ths[t]?=some g)(hph:g.ph=some .back):StI H t .back/\EfF H t g .back:=by
 have E:=(gSi.1 hg).1;have d:=h.th g (h.mem hg);have Q:g.hands≠[]:=by have:=d.ph;unfold PhI at this;rw[hph]at this;exact this
 have C:=GK hg;cases hhd:g.hands with
 | nil=>exact(Q hhd).elim
 | cons b r=>
  obtain⟨k,z⟩:=b;obtain⟨L,w,D⟩:=d.hb (k,z) (by rw[hhd];simp);simp only at L w D;have m:∀x,z.count x<=cnT g (k:Int) x:=λx=>by
   unfold cnT;rw[hhd,Kx,zB rfl];simp only;omega
  have i:∀x∈z,Um held (k:Int) x:=λx u=>h.um_t (h.mem hg) (zI (zGY.2 u) (m x));have A:z.Nodup:=zGX.2 λx=>by
   have U:=m x;have X:=h.cnT_le (h.mem hg) (k:Int) x;have V:=WlT held (k:Int) x;omega
  obtain⟨j,G,R,F,wi,um,sub⟩:=Wk5 (H:={H with ths:=H.ths.set t {g with hands:=r}}) (tb:=H.tb) rfl h.wi (h.own_lt t) L i A;have K:Wt H t .back=({{H with ars:=j}with ths:=H.ths.set t {g with hands:=r}},(if r=[]then none else some .back),0,0):=by
   simp only[Wt,C,hhd,ZM hg,R];rw[WeU (g:={g with hands:=r}) (by simp[E])]
  have e:=Z3 (H1:={H with ars:=j}) E K;have P:=h.upd hg (g':={g with hands:=r,ph:=if r=[]then none else some .back}) (live':=H.live) wi h.sim rfl F (λp B N=>.inl (sub p B N)) (λJ x=>by
   have U:=Whf A i um J x;unfold cnT;rw[hph,hhd,Kx];have:cnP (if r=[]then none else some Ph.back) J x=0:=by split<;>rfl
   simp only[this];simp only[cnP];omega) h.lk (λW M=>.inl M) (λs a B=>by
    simp only at B;split at B<;>cases B) ⟨d.ll,d.lo,λb hb=>d.hb b (by rw[hhd];exact zAJ _ hb),by have:=d.hl;rw[hhd]at this;simp at this ⊢;omega,by
    unfold PhI;by_cases ho:r=[]
    ·rw[zB ho];exact ho
    ·rw[zA ho];exact ho⟩
  refine⟨StI.mk' hg d.hl ⟨k,z,r,by rw[C];exact hhd,λx u=>⟨(h.i63 (i x u)).1,(h.i63 (i x u)).2.2⟩,O⟩ e P (KS.refl _),?_⟩;unfold EfF;rw[e,K];refine⟨rfl,?_,λ_=>⟨rfl,rfl⟩,λx u=>by cases u⟩;by_cases ho:r=[]
  ·exact .inr (by simp only;rw[zB ho])
  ·exact .inl ⟨.back,_,by simp only;rw[zA ho],trivial,(λy S=>by cases S),zM E,by simp only[Wbp];rw[hhd];simp⟩
theorem WoV (h:HI H held s0)(hg:H.ths[t]?=some g){x:Int}(hph:g.ph=some (.put k x)):StI H t (.put k x)/\EfF H t g (.put k x):=by
 have B:=(gSi.1 hg).1;have r:=h.th g (h.mem hg);obtain⟨K,L⟩:g.hands=[(k,[x])]/\k<H.tb.length:=by have:=r.ph;unfold PhI at this;rw[hph]at this;exact this
 obtain⟨c,hc,E⟩:=h.cls L;obtain⟨l,hl,V,G,hlm⟩:=r.li L;have F:=GK hg;have h40:=h.tb40;have Q:=Wny (x:=x) E G;have N:=Wl9 c x l O;have W:(putL c x l).1.length<=129/\(putL c x l).2.os.length<=128:=by
  have hlim:=G.lim;have u:(addL [x] l).os=l.os++[x]:=by unfold addL;rw[zA aE]
  have R:(upL c (addL [x] l)).os=l.os++[x]:=by rw[←u];unfold upL;split<;>rfl
  unfold Cls.ok at E;unfold putL;rw[zA O];split
  ·rw[u];simp;omega
  ·simp only[oldL,R,zO,zr,zK,zDN];omega
 obtain⟨M,Z⟩:=r.setL (k:=k) Q W.2;have Y:∃hs:List Bt,(if(putL c x l).1=[]then[]else[(k,(putL c x l).1)])=hs:=⟨_,rfl⟩
 obtain⟨i,j⟩:=Y;have hs2l:i.length<=1:=by rw[←j];split<;>simp
 have w:∀b∈i,b.1<H.tb.length/\b.2≠[]/\b.2.length<=256:=λb p=>by
  rw[←j]at p;split at p
  ·simp at p
  ·simp only[zW]at p;subst p;exact⟨L,by assumption,by simp only;omega⟩
 have C:∀d y,cnB i d y=if(k:Int)=d then(putL c x l).1.count y else 0:=λd y=>by
  rw[←j];split
  ·rename_i hn;rw[hn,VH];simp
  ·simp only[Kx,VH,zq]
 let g3:Th:={g with ls:=g.ls.set k (putL c x l).2,hands:=i}
 let g4:Th:=if H.cf.budget<Qt H.tb g3.ls then{g3 with ls:=Q6 KK H.tb g3.ls,hands:=g3.hands++Ka KK H.tb g3.ls}else g3
 have U:putH H t k x = {H with ths:=H.ths.set t g4}:=by
  have e2:(if(putL c x l).1=[]then H.setT t λh=>h.setL k (putL c x l).2 else QP (H.setT t λh=>h.setL k (putL c x l).2) t k (putL c x l).1) = {H with ths:=H.ths.set t {g with ls:=g.ls.set k (putL c x l).2,hands:=(k,[x])::i}}:=by
   rw[←j];split
   ·rw[ZM hg,←K];rfl
   ·rw[ZM hg];unfold QP;rw[ZM (g:=g.setL k (putL c x l).2) (by simp[B])];simp only[zBP,Th.setL,K];rfl
  have e3:({H with ths:=H.ths.set t {g with ls:=g.ls.set k (putL c x l).2,hands:=(k,[x])::i}}:Hw).setT t (λh=>{h with hands:=h.hands.drop 1}) = {H with ths:=H.ths.set t g3}:=by
   rw[ZM (g:={g with ls:=g.ls.set k (putL c x l).2,hands:=(k,[x])::i}) (by simp[B])];simp only[zBP,zFP,List.drop_zero];rfl
  have z:({H with ths:=H.ths.set t g3}:Hw).ths[t]?=some g3:=by simp[B]
  unfold putH;simp only[Ua hc,F,V,e2,e3,GK z,ZM z,zBP];show(if H.cf.budget<Qt H.tb g3.ls then _ else _)=_
  simp only[g4];split<;>rfl
 have hg4:g4.ph=g.ph:=by simp only[g4];split<;>rfl
 have S:∀d y,cnL g4.ls d y+cnB g4.hands d y=cnL g.ls d y+cnB g.hands d y:=λd y=>by
  have X:=G4 hl (putL c x l).2 d y;have h2:=N y;have h3:cnL g3.ls d y+cnB g3.hands d y=cnL g.ls d y+cnB g.hands d y:=by
   simp only[g3];rw[C,K,Kx,VH];by_cases hkk:(k:Int)=d
   ·simp only[hkk,zT]at X ⊢;omega
   ·simp only[hkk,zu]at X ⊢;omega
  simp only[g4];split
  ·have h4:=cnF (f:=KK) WkG (tb:=H.tb) (ls:=g3.ls) M d y;simp only[WbE];omega
  ·exact h3
 have m:g4.ls.length=H.tb.length/\(∀l∈g4.ls,LiOk l/\l.os.length<=128)/\(∀b∈g4.hands,b.1<H.tb.length/\b.2≠[]/\b.2.length<=256)/\g4.hands.length<=41:=by
  have hsl:=WaM KK H.tb g3.ls;simp only[g4];split
  ·refine⟨WfJ M,λl hl=>?_,λb p=>?_,by simp only[zK,g3]at *;omega⟩
   ·obtain⟨J,P,D,A,rfl⟩:=Wfn hl;have h5:=Z D A;have:=Wf8 J D;exact⟨WfN (h.ok J P) h5.1,O⟩
   ·rcases zR.1 p with p|p
    ·exact w b p
    ·obtain⟨b1,b2,J,_,D,A,b3⟩:=Wf5 p;have h5:=Z D A;have:=Wf8 J D;exact⟨b1,b2,by rw[b3];omega⟩
  ·exact⟨M,Z,w,by simp only[g3];omega⟩
 have hs:Wt H t (.put k x)=({H with ths:=H.ths.set t g4},(if g4.hands=[]then none else some .back),0,0):=by
  show(putH H t k x,retH (putH H t k x) t,0,0)=_;rw[U,WeU (g:=g4) (by simp[B])]
 have e:=Z3 B hs;have hi:=h.updT hg (g':={g4 with ph:=if g4.hands=[]then none else some .back}) (live':=H.live) (λd y=>by
  have X:=S d y;unfold cnT;rw[hph];have:cnP (if g4.hands=[]then none else some Ph.back) d y=0:=by split<;>rfl
  simp only[this];simp only[cnP];omega) h.lk (λe' he=>.inl he) (λs a hp=>by
   simp only at hp;split at hp<;>cases hp) ⟨m.1,m.2.1,m.2.2.1,m.2.2.2,by
   unfold PhI;by_cases ho:g4.hands=[]
   ·simp only[ho,zT]
   ·simp only[ho,zu];exact ho⟩
 refine⟨StI.mk' hg r.hl ⟨L,by rw[F,K];simp⟩ e hi (KS.refl _),?_⟩;unfold EfF;rw[e,hs];refine⟨rfl,?_,λ_=>⟨rfl,rfl⟩,λx hx=>by cases hx⟩;by_cases ho:g4.hands=[]
 ·exact .inr (by simp only;rw[zB ho])
 ·exact .inl ⟨.back,_,by simp only;rw[zA ho],trivial,(λy hy=>by cases hy),zM B,by simp only[Wbp];have:=m.2.2.2;omega⟩
end Go.Ar
namespace Go.Ar
open Go Go.Vc Go.Proofs
open Go.Bu (isPow WaG Wer)
variable {σ u w w':Hp}{F B P Q:Rg}{L:LayH}{H H':Hw}{t n:Nat}{g:Th}
def WbU (size:Int):Int:=(size+255)/256*256
def WcB (tb:List Cls)(size align:Int):Int×Int:=
 if size<=16384/\KG size align=true then(match clsV tb size align with
  | some k=>((tb.getD k ⟨8,1,1⟩).size:Int)
  | none=>WbU size,0)else(0,1)
theorem Wlh {a:Int}(h1:1<=a)(h2:a<=256):(bits .and .i64 a (a-1) != 0) = !isPow a:=by
 obtain⟨a,rfl⟩:=zk (show 0<=a by omega);rw[show(a:Int)-1=((a-1:Nat):Int) by omega,Go.Bu.bits_and_i64 O O,WaG,←Wer O O];simp only[bne,Bool.not_inj_iff];rw[zBD];simp only[zX];omega
end Go.Ar
namespace Go.Ar
open Go Go.Vc Go.Proofs
variable {σ u w w':Hp}{F B P Q:Rg}{L:LayH}{H H':Hw}{t n:Nat}{g:Th}
theorem WfI {tb:List Cls}{size align:Int}{k:Nat}(h:clsV tb size align=some k):k<tb.length:=(zGW.1 h).1
end Go.Ar
namespace Go.Ar
open Go.Vc (mget mset mdel)
variable {H H':Hw}{held:List Pc}{s0:Sp}{t k j:Nat}{g:Th}{A:AR}{c:Cls}
theorem KB (f:Th->Th)(hj:j≠t):(H.setT t f).ths[j]?=H.ths[j]? := by
 simp[Hw.setT,zDB,Ne.symm hj]
theorem Wj2 (x:Int)(hj:j≠t):(putH H t k x).ths[j]?=H.ths[j]? := by
 unfold putH QP;simp only;split<;>split<;>simp only[KB _ hj]
theorem Wiq (p:Ph)(hj:j≠t):(Wt H t p).1.ths[j]?=H.ths[j]? := by
 cases p with
 | take k=>simp only[Wt];split<;>simp only[VF,KB _ hj]
 | transfer k w=>
  simp only[Wt];split
  ·split
   ·unfold QP;rw[KB _ hj];rfl
   ·rfl
  ·rfl
 | central k w=>
  simp only[Wt];split
  ·rfl
  ·unfold QP;rw[KB _ hj];rfl
 | grow k w=>simp only[Wt];split<;>rfl
 | fill=>simp only[Wt];split<;>simp only[VF,KB _ hj]
 | large m=>simp only[Wt];split<;>rfl
 | find x=>
  simp only[Wt,UZ];split
  ·rfl
  ·split
   ·rfl
   ·unfold QP;rw[KB _ hj]
 | put k x=>exact Wj2 x hj
 | back=>
  simp only[Wt];split
  ·rw[WaB,KB _ hj]
  ·rfl
 | give s a=>simp only[Wt];split<;>rfl
 | drain=>simp only[Wt,KB _ hj]
theorem Hm (p:Ph)(hj:j≠t):(QO H t p).ths[j]?=H.ths[j]? := by
 unfold QO setPh;rw[KB _ hj,Wiq p hj]
def phAt (H:Hw)(j:Nat):Option Ph:=(H.ths[j]?).bind (·.ph)
def Wdw (H H':Hw)(t:Nat):Prop:=phAt H' t=none/\∀j,j≠t->phAt H' j=phAt H j
theorem st_M (h:HI H held s0)(hg:H.ths[t]?=some g){p:Ph}(hp:g.ph=some p){cl sz:Int}(hr:Rq H.tb g p cl sz):StI H t p/\EfM H t p cl sz:=by
 cases p with
 | take k=>exact Wmc h hg hp hr
 | transfer k w=>exact WeG h hg hp hr
 | central k w=>exact Wgq h hg hp hr
 | grow k w=>exact WnQ h hg hp hr
 | fill=>exact WmJ h hg hp hr
 | large m=>exact Wlf h hg hp hr
 | find x=>exact hr.elim
 | put k x=>exact hr.elim
 | back=>exact hr.elim
 | give s a=>exact hr.elim
 | drain=>exact hr.elim
theorem st_F (h:HI H held s0)(hg:H.ths[t]?=some g){p:Ph}(hp:g.ph=some p)(hf:isF p):StI H t p/\EfF H t g p:=by
 cases p with
 | take k=>exact hf.elim
 | transfer k w=>exact hf.elim
 | central k w=>exact hf.elim
 | grow k w=>exact hf.elim
 | fill=>exact hf.elim
 | large m=>exact hf.elim
 | find x=>exact WmO h hg hp
 | put k x=>exact WoV h hg hp
 | back=>exact WnA h hg hp
 | give s a=>exact Wmr h hg hp
 | drain=>exact Wli h hg hp
theorem Wad {p:Ph}(ht:t<H.ths.length):∃g',(QO H t p).ths[t]?=some g'/\g'.ph=(Wt H t p).2.1:=Wfl ht
theorem Wn0 {cl sz:Int}:∀(n:Nat) {H:Hw} {held:List Pc} {s0:Sp} {g:Th} {p:Ph},HI H held s0->H.ths[t]?=some g->g.ph=some p->Rq H.tb g p cl sz->Wam H t p<=n →
 ∃m H' a e,RunN m H t p H' a e/\(∃held s0,HI H' held s0)/\KS H.sp H'.sp/\Wdw H H' t/\((e≠0/\a=0/\H'.live=H.live)\/(e=0/\mget H.live a=none/\H'.live=mset H.live a (a,sz,cl,YJ H'.ars a)))
 | n,H,held,s0,g,p,h,hg,hp,hr,hn=>by
  have ht:=(gSi.1 hg).1;obtain⟨s,D⟩:=st_M h hg hp hr;have b:(Wt H t p).2.1=none->Wdw H (QO H t p) t:=λE=>by
   obtain⟨F,x,y⟩:=Wad (p:=p) ht;exact⟨by unfold phAt;rw[x];exact y.trans E,λj u=>by unfold phAt;rw[Hm p u]⟩
  rcases D with⟨p',F,e1,e2,e3,e4,e5⟩|⟨e1,e2,e3,e4⟩|⟨e1,e2,e3,e4⟩
  ·obtain⟨z,B,G⟩:=s.hi;obtain⟨J,d,hp2⟩:=Wad (p:=p) ht;rw[e3]at d;cases d;have w:(QO H t p).tb=H.tb:=(Gk H t p).1;have C:Wam (QO H t p) t p'<n:=by omega
   obtain⟨m,H',a,e,r,hi,ks,A,i⟩:=Wn0 (Wam (QO H t p) t p') G e3 (hp2.trans e1) (by rw[w];exact e4) (zC _);refine⟨m+1,H',a,e,.next s.ok e1 r,hi,s.ks.trans ks,⟨A.1,λj u=>(A.2 j u).trans (by unfold phAt;rw[Hm p u])⟩,?_⟩;rw[e2]at i;exact i
  ·exact⟨1,_,_,_,.done s.ok e1,s.hi,s.ks,b e1,.inl ⟨e2,e3,e4⟩⟩
  ·exact⟨1,_,_,_,.done s.ok e1,s.hi,s.ks,b e1,.inr ⟨e2,e3,e4⟩⟩
termination_by n=>n
theorem Wol:∀(n:Nat) {H:Hw} {held:List Pc} {s0:Sp} {g:Th} {p:Ph},HI H held s0->H.ths[t]?=some g->g.ph=some p->isF p->Wbp g p<=n →
 ∃m H' e,RunN m H t p H' 0 e/\(∃held s0,HI H' held s0)/\KS H.sp H'.sp/\Wdw H H' t/\((∀x,p≠.find x)->e=0/\H'.live=H.live) ∧
  (∀x,p=.find x->(mget H.live x=none->e≠0/\H'.live=H.live)/\(∀b,mget H.live x=some b->e=0/\H'.live=mdel H.live x))
 | n,H,held,s0,g,p,h,hg,hp,hf,hn=>by
  have ht:=(gSi.1 hg).1;obtain⟨s,P,N,G,a⟩:=st_F h hg hp hf;rcases N with⟨p',w,e1,e2,e3,e4,e5⟩|e1
  ·obtain⟨D,K,Q⟩:=s.hi;obtain⟨R,i,hp2⟩:=Wad (p:=p) ht;rw[e4]at i;cases i;have M:Wbp w p'<n:=by omega
   obtain⟨m,H',e,r,hi,ks,J,C,_⟩:=Wol (Wbp w p') Q e4 (hp2.trans e1) e2 (zC _);obtain⟨F,E⟩:=C e3;refine⟨m+1,H',e,.next s.ok e1 r,hi,s.ks.trans ks,⟨J.1,λj u=>(J.2 j u).trans (by unfold phAt;rw[Hm p u])⟩,λd=>⟨F,E.trans (G d).2⟩,λx d=>⟨λy=>?_,λb L=>⟨F,E.trans ((a x d).2 b L).2⟩⟩⟩;have:=((a x d).1 y).1;rw[e1]at this;cases this
  ·have A:Wdw H (QO H t p) t:=by
    obtain⟨w,z,B⟩:=Wad (p:=p) ht;exact⟨by unfold phAt;rw[z];exact B.trans e1,λj u=>by unfold phAt;rw[Hm p u]⟩
   have r:=RunN.done (H:=H) (t:=t) s.ok e1;rw[P]at r;exact⟨1,_,_,r,s.hi,s.ks,A,G,λx d=>⟨λy=>((a x d).1 y).2,(a x d).2⟩⟩
termination_by n=>n
structure OpOk (H H':Hw):Prop where
 hi:∃held s0,HI H' held s0
 ks:KS H.sp H'.sp
 kp:Qc H' H
 ph:∀j,phAt H' j=phAt H j
theorem OpOk.refl (h:HI H held s0):OpOk H H:=⟨⟨held,s0,h⟩,KS.refl _,Qc.refl _,λ_=>rfl⟩
theorem OpOk.trans {H1 H2 H3:Hw}(a:OpOk H1 H2)(b:OpOk H2 H3):OpOk H1 H3:=⟨b.hi,a.ks.trans b.ks,a.kp.trans b.kp,λj=>(b.ph j).trans (a.ph j)⟩
theorem Wb6 {tb:List Cls}{kind size align addr:Int}{p:Ph}(h:reqH tb kind size align addr=some p)(hx:I63 addr)(hh:g.hands=[]):PhI tb.length {g with ph:=some p}:=by
 unfold reqH at h;split at h
 ·split at h
  ·split at h
   ·split at h
    ·rename_i k hk;cases h;exact⟨hh,WfI hk⟩
    ·cases h;exact⟨hh,O,O⟩
   ·cases h
  ·cases h
 ·split at h
  ·cases h;exact⟨hh,hx⟩
  ·split at h
   ·cases h;exact hh
   ·cases h
theorem HI.setPh (h:HI H held s0)(hg:H.ths[t]?=some g)(hn:g.ph=none){p:Ph}(hp:PhI H.tb.length {g with ph:=some p})(hq:∀s a,p≠.give s a):HI (setPh H t (some p)) held s0:=by
 have b:=h.th g (h.mem hg);have e:Go.Ar.setPh H t (some p) = {H with ths:=H.ths.set t {g with ph:=some p}}:=ZM hg _;rw[e];refine h.updT hg (live':=H.live) (λd x=>?_) h.lk (λj i=>.inl i) (λs a hp=>by cases hp;exact(hq s a rfl).elim) ⟨b.ll,b.lo,b.hb,b.hl,hp⟩;unfold cnT;rw[hn];have:cnP (some p) d x=0:=by
  cases p<;>first|rfl|exact(hq _ _ rfl).elim
 simp only[this];simp only[cnP]
theorem Gq (h:HI H held s0)(hg:H.ths[t]?=some g)(hn:g.ph=none):g.hands=[]:=by
 have:=(h.th g (h.mem hg)).ph;unfold PhI at this;rw[hn]at this;exact this
theorem Ul (H:Hw)(thread kind size align addr:Int):(∃e,KH H thread kind size align addr=.inl e/\e≠0)\/∃(t:Nat) (p:Ph) (g:Th),thread=(t:Int)/\H.ths[t]?=some g/\g.ph=none/\reqH H.tb kind size align addr=some p/\KH H thread kind size align addr=.inr (t,p):=by
 unfold KH;split
 ·split
  ·split
   ·split
    ·rename_i hth _ g hg hn _ p hp;exact .inr ⟨thread.toNat,p,g,O,hg,hn,hp,rfl⟩
    ·exact .inl ⟨1,rfl,by decide⟩
   ·exact .inl ⟨5,rfl,by decide⟩
  ·exact .inl ⟨1,rfl,by decide⟩
 ·exact .inl ⟨1,rfl,by decide⟩
theorem WgL (hg:H.ths[t]?=some g)(p:Option Ph)(hj:j≠t):phAt (setPh H t p) j=phAt H j:=by
 unfold phAt setPh;rw[KB _ hj]
theorem WoJ (hg:H.ths[t]?=some g)(hn:g.ph=none){p:Ph}(ps:Wdw (setPh H t (some p)) H' t):∀j,phAt H' j=phAt H j:=λj=>by
 by_cases hj:j=t
 ·subst hj;rw[ps.1];unfold phAt;rw[hg];exact hn.symm
 ·rw[ps.2 j hj,WgL hg _ hj]
def MalE (H:Hw)(size align:Int)(H':Hw)(a e:Int):Prop:=(e≠0/\a=0/\H'.live=H.live) ∨
 (e=0/\mget H.live a=none/\(1<=size/\size<=16384/\KG size align=true)/\∃cl,H'.live=mset H.live a (a,(WcB H.tb size align).1,cl,YJ H'.ars a)/\((∃k:Nat,cl=k/\clsV H.tb size align=some k)\/cl = -1/\clsV H.tb size align=none))
theorem Wjn (h:HI H held s0)(thread size align:Int):∃H' a e,U2 H thread 0 size align 0 H' a e/\OpOk H H'/\MalE H size align H' a e:=by
 rcases Ul H thread 0 size align 0 with⟨e,hs,hne⟩|⟨t,p,g,rfl,hg,hn,hq,hs⟩
 ·exact⟨H,0,e,.inl ⟨hs,hne,rfl,rfl⟩,OpOk.refl h,.inl ⟨hne,rfl,rfl⟩⟩
 ·have C:=Gq h hg hn;have i:=Wb6 (g:=g) hq (by unfold I63;decide) C;unfold reqH at hq;rw[zB rfl]at hq;split at hq
  ·rename_i hsz;split at hq
   ·rename_i hok;have b:WcB H.tb size align=(match clsV H.tb size align with
     | some k=>((H.tb.getD k ⟨8,1,1⟩).size:Int)
     | none=>WbU size,0):=by
     unfold WcB;rw[zB ⟨hsz.2,hok⟩]
     first|done | (cases clsV H.tb size align<;>rfl)
    obtain⟨cl,d,u⟩:∃cl,Rq H.tb {g with ph:=some p} p cl (WcB H.tb size align).1/\((∃k:Nat,cl=k/\clsV H.tb size align=some k)\/cl = -1/\clsV H.tb size align=none):=by
     cases hcv:clsV H.tb size align with
     | some k=>
      rw[hcv]at hq b;cases hq;have j:=WfI hcv;have z:H.tb[k]?=some H.tb[k]:=gGe j;refine⟨k,⟨rfl,H.tb[k],z,?_⟩,.inl ⟨k,rfl,rfl⟩⟩;rw[b];simp only;rw[zL,z];rfl
     | none=>
      rw[hcv]at hq b;cases hq;refine⟨-1,⟨rfl,?_⟩,.inr ⟨rfl,rfl⟩⟩;rw[b];simp only;unfold WbU;omega
    have y:∀s a,p≠.give s a:=λs a e=>by subst e;exact d.elim
    have D:=h.setPh hg hn i y;have w:(Go.Ar.setPh H t (some p)).ths[t]?=some {g with ph:=some p}:=by
     have B:=(gSi.1 hg).1;have e:Go.Ar.setPh H t (some p) = {H with ths:=H.ths.set t {g with ph:=some p}}:=ZM hg _;rw[e];simp[B]
    obtain⟨m,H',a,e,r,A,ks,E,x⟩:=Wn0 _ D w rfl d (zC _);refine⟨H',a,e,.inr ⟨t,p,m,hs,r⟩,⟨A,ks,(KJ _ _ _).trans (Wfm r),WoJ hg hn E⟩,?_⟩;rcases x with⟨r1,r2,r3⟩|⟨r1,r2,r3⟩
    ·exact .inl ⟨r1,r2,r3⟩
    ·exact .inr ⟨r1,r2,⟨hsz.1,hsz.2,hok⟩,cl,r3,u⟩
   ·cases hq
  ·cases hq
def FreE (H:Hw)(thread addr:Int)(H':Hw)(e:Int):Prop:=
 (e≠0/\H'=H/\KH H thread 1 0 0 addr=.inl e)\/((∃p,KH H thread 1 0 0 addr=.inr p)/\mget H.live addr=none/\e≠0/\H'.live=H.live)\/((∃p,KH H thread 1 0 0 addr=.inr p)/\∃b,mget H.live addr=some b/\e=0/\H'.live=mdel H.live addr)
theorem WlP (h:HI H held s0)(hg:H.ths[t]?=some g)(hn:g.ph=none){p:Ph}(hp:PhI H.tb.length {g with ph:=some p})(hf:isF p)(hq:∀s a,p≠.give s a):∃m H' e,RunN m (setPh H t (some p)) t p H' 0 e/\OpOk H H'/\((∀x,p≠.find x)->e=0/\H'.live=H.live) ∧
 (∀x,p=.find x->(mget H.live x=none->e≠0/\H'.live=H.live)/\(∀b,mget H.live x=some b->e=0/\H'.live=mdel H.live x)):=by
 have u:=h.setPh hg hn hp hq;have d:(Go.Ar.setPh H t (some p)).ths[t]?=some {g with ph:=some p}:=by
  have w:=(gSi.1 hg).1;have e:Go.Ar.setPh H t (some p) = {H with ths:=H.ths.set t {g with ph:=some p}}:=ZM hg _;rw[e];simp[w]
 obtain⟨m,H',e,r,i,ks,y,z,j⟩:=Wol _ u d rfl hf (zC _);exact⟨m,H',e,r,⟨i,ks,(KJ _ _ _).trans (Wfm r),WoJ hg hn y⟩,z,j⟩
theorem Wgc (h:HI H held s0)(thread addr:Int)(hx:I63 addr):∃H' e,U2 H thread 1 0 0 addr H' 0 e/\OpOk H H'/\FreE H thread addr H' e:=by
 rcases Ul H thread 1 0 0 addr with⟨e,hs,hne⟩|⟨t,p,g,rfl,hg,hn,hq,hs⟩
 ·exact⟨H,e,.inl ⟨hs,hne,rfl,rfl⟩,OpOk.refl h,.inl ⟨hne,rfl,hs⟩⟩
 ·have d:=Wb6 (g:=g) hq hx (Gq h hg hn);have j:p=.find addr:=by unfold reqH at hq;simp at hq;exact hq.symm
  subst j;obtain⟨m,H',e,r,op,_,i⟩:=WlP h hg hn d trivial (λs a e=>by cases e);refine⟨H',e,.inr ⟨t,_,m,hs,r⟩,op,?_⟩;cases hm:mget H.live addr with
  | none=>exact .inr (.inl ⟨⟨_,hs⟩,hm,(i addr rfl).1 hm⟩)
  | some b=>exact .inr (.inr ⟨⟨_,hs⟩,b,hm,(i addr rfl).2 b hm⟩)
theorem WeI (h:HI H held s0)(thread:Int):∃H' e,U2 H thread 2 0 0 0 H' 0 e/\OpOk H H'/\H'.live=H.live:=by
 rcases Ul H thread 2 0 0 0 with⟨e,hs,hne⟩|⟨t,p,g,rfl,hg,hn,hq,hs⟩
 ·exact⟨H,e,.inl ⟨hs,hne,rfl,rfl⟩,OpOk.refl h,rfl⟩
 ·have b:=Wb6 (g:=g) hq (by unfold I63;decide) (Gq h hg hn);have d:p=.drain:=by unfold reqH at hq;simp at hq;exact hq.symm
  subst d;obtain⟨m,H',e,r,op,i,_⟩:=WlP h hg hn b trivial (λs a e=>by cases e);exact⟨H',e,.inr ⟨t,_,m,hs,r⟩,op,(i λx e=>by cases e).2⟩
end Go.Ar
namespace Go.Ar
open Go Go.Vc Go.Proofs
variable {σ u w w':Hp}{F B P Q:Rg}{L:LayH}{H H':Hw}{t n k:Nat}{A:AR}{Y:Lay}
theorem Fr.refl (A:AR):Fr A A:=⟨rfl,rfl,rfl⟩
theorem Fr.trans {A B C:AR}(h:Fr B A)(k:Fr C B):Fr C A:=⟨k.1.trans h.1,k.2.1.trans h.2.1,k.2.2.trans h.2.2⟩
theorem Weg {α:Type}(f:AR×Sp->α->AR×Sp)(hf:∀p x,Fr (f p x).1 p.1):∀(l:List α) (p:AR×Sp),Fr (l.foldl f p).1 p.1
 | [],p=>Fr.refl _
 | x::l,p=>(hf p x).trans (Weg f hf l (f p x))
theorem Wh4 (A:AR)(sp:Sp):Fr (trimS A sp).1 A:=Weg Vd (λp x=>⟨rfl,rfl,rfl⟩) _ _
theorem Wlw (A:AR):Fr (YI A) A:=⟨(Vt _ A).1,(Vt _ A).2.1,(Vt _ A).2.2.1⟩
theorem WlQ (A:AR)(sp:Sp)(want:Int):Fr (relS A sp want).1 A:=by
 unfold relS;split
 ·exact Fr.refl A
 ·exact(Wlw A).trans (Weg rel1 (λp x=>⟨rfl,rfl,rfl⟩) _ _)
theorem Whk (h:HH σ F L H)(hk:H.ars[k]?=some A)(hy:L.ys[k]?=some Y){R:aN}
 (hR:∀σ',Ext F σ σ'->HH σ' (Grow F σ) L {H.setA k (trimS A H.sp).1 with sp:=(trimS A H.sp).2}->R ((Wgu A:Nat):Int) σ'):Yj.c (aW Y.p) σ R:=by
 obtain⟨Y',G,D,a,_,r,d⟩:=h.stepAS hk;rw[hy]at a;cases a;refine Wlx r λσ' e s=>?_;have g:traT (trimS A H.sp).1 Y=traT A Y:=(Wh4 A H.sp).traT Y;obtain⟨m,j⟩:=d σ' _ _ (Cut G σ) (Cut D σ) (Wh4 A H.sp).1 e ⟨λb i=>.inl i.1,λb i=>i.1⟩ (by rw[g];exact s);exact hR σ' m j
theorem WdL (h:HH σ F L H)(hk:H.ars[k]?=some A)(hy:L.ys[k]?=some Y)(want:Int)(h12:(Vw (YI A).st).length<=12){R:Int->Int->Hp->Prop}
 (hR:∀σ',Ext F σ σ'->HH σ' (Grow F σ) L {H.setA k (relS A H.sp want).1 with sp:=(relS A H.sp want).2}->R ((relV A want:Nat):Int) (relE want) σ'):Xo.c (aW Y.p) want σ R:=by
 obtain⟨Y',G,D,a,_,m,b⟩:=h.stepAS hk;rw[hy]at a;cases a;refine Wd7 m want h12 λσ' G' D' g e r=>?_;have d:traT (relS A H.sp want).1 Y=traT A Y:=(WlQ A H.sp want).traT Y;obtain⟨j,i⟩:=b σ' _ _ G' D' (WlQ A H.sp want).1 e g (by rw[d];exact r);exact hR σ' j i
def QG (H:Hw)(n:Nat):Hw×Nat:=(List.range n).foldl (λ(p:Hw×Nat) k=>match p.1.ars[k]? with
 | some A=>({p.1.setA k (trimS A p.1.sp).1 with sp:=(trimS A p.1.sp).2},p.2+Wgu A)
 | none=>p) (H,0)
theorem U9 (n:Nat):QG H (n+1)=(match (QG H n).1.ars[n]? with
 | some A=>({(QG H n).1.setA n (trimS A (QG H n).1.sp).1 with sp:=(trimS A (QG H n).1.sp).2},(QG H n).2+Wgu A)
 | none=>QG H n):=by
 unfold QG;rw[zAC,zAT];rfl
theorem We9 (H:Hw)(n:Nat):Qc (QG H n).1 H:=by
 induction n with
 | zero=>exact Qc.refl H
 | succ n ih=>
  rw[U9];split
  ·exact ih.trans (Z9 _ _ _ _)
  ·exact ih
theorem WlG (h:HH σ F L H)(hb:∀n,n<=H.ars.length->(QG H n).2<=1000000){R:aN}(hR:∀σ',Ext F σ σ'->HH σ' (Grow F σ) L (QG H H.ars.length).1->R (((QG H H.ars.length).2:Nat):Int) σ'):Zy.c (aW L.p) σ R:=by
 refine Zy.o ?_;unfold Zy.v;refine Kz h (ifF rfl (nilP (h.hd.rS rfl ?_)));have M:=h.arowL;have G:=h.s.a2;refine Km (a:=bN) (bb:=bN) (λ(x z:Int) w=>∃(j:Nat) (B P:Rg),z=(j:Int)/\x=((QG H j).2:Int)/\j<=H.ars.length/\HK F σ B w P L (QG H j).1) (λ_ z _=>H.ars.length-z.toNat) ⟨0,_,_,rfl,rfl,O,HK.start h⟩ ?_;rintro(x:Int) (z:Int) w ⟨j,B,P,rfl,rfl,hj,K⟩;refine ifD (λr=>?_) λu=>?_
 ·simp only at r;have C:j<H.ars.length:=by omega
  obtain⟨A,g⟩:∃A,(QG H j).1.ars[j]?=some A:=⟨_,gGe (by rw[(We9 H j).2.2.2];exact C)⟩;obtain⟨Y,D,_,_⟩:=K.h.ar g;have d:=U9 (H:=H) j;rw[g]at d;simp only at d;have E:=hb (j+1) O;refine K.h.rA D (Whk K.h g D λS Q N=>?_);have K1:=K.to Q N λb _ hb=>hb;have U:(QG H (j+1)).2=(QG H j).2+Wgu A:=by rw[d]
  have J:(QG H (j+1)).1 = {(QG H j).1.setA j (trimS A (QG H j).1.sp).1 with sp:=(trimS A (QG H j).1.sp).2}:=by rw[d]
  rw[←J]at K1;exact arN (m:=(QG H (j+1)).2) O O (arN (m:=j+1) O O ⟨⟨j+1,_,_,rfl,rfl,O,K1⟩,O⟩)
 ·have y:j=H.ars.length:=by simp only at u;omega
  subst y;exact hR w K.e (K.fin h)
def Uo (H:Hw)(n:Nat):Hw:=(List.range n).foldl (λ(H:Hw) k=>match H.ars[k]? with
 | some A=>H.setA k (UX A)
 | none=>H) H
theorem U3 (n:Nat):Uo H (n+1)=(match (Uo H n).ars[n]? with
 | some A=>(Uo H n).setA n (UX A)
 | none=>Uo H n):=by
 unfold Uo;rw[zAC,zAT];rfl
theorem Wek (H:Hw)(n:Nat):Qc (Uo H n) H:=by
 induction n with
 | zero=>exact Qc.refl H
 | succ n ih=>
  rw[U3];split
  ·exact ih.trans (Z9 _ _ _ _)
  ·exact ih
theorem WjP (h:HH σ F L H)(hI:∀n A,n<H.ars.length->(Uo H n).ars[n]?=some A->TraI A){R:aP}(hR:∀σ',Ext F σ σ'->HH σ' (Grow F σ) L (Uo H H.ars.length)->R σ'):Zz.c (aW L.p) σ R:=by
 refine Zz.o ?_;unfold Zz.v;refine Kz h (ifF rfl (nilP (h.hd.rS rfl ?_)));have M:=h.arowL;have S:=h.s.a2;refine ZT (a:=bN) (λ(z:Int) w=>∃(j:Nat) (B P:Rg),z=(j:Int)/\j<=H.ars.length/\HK F σ B w P L (Uo H j)) (λz _=>H.ars.length-z.toNat) ⟨0,_,_,rfl,O,HK.start h⟩ ?_;rintro(z:Int) w ⟨j,B,P,rfl,hj,K⟩;refine ifD (λy=>?_) λC=>?_
 ·simp only at y;have u:j<H.ars.length:=by omega
  obtain⟨A,x⟩:∃A,(Uo H j).ars[j]?=some A:=⟨_,gGe (by rw[(Wek H j).2.2.2];exact u)⟩;obtain⟨Y,E,_,_⟩:=K.h.ar x;have d:=U3 (H:=H) j;rw[x]at d;simp only at d;refine K.h.rA E ?_;obtain⟨G,Z,X,g⟩:=K.h.stepA0 x E;have r:=hI j A u x;refine WjN X r λN W U=>?_;obtain⟨V,Q⟩:=g N (UX A) (WaX _ A r).1 W U;have K1:=K.to V Q λb _ J=>J;rw[←d]at K1;exact arN (m:=j+1) O O ⟨⟨j+1,_,_,rfl,O,K1⟩,O⟩
 ·have D:j=H.ars.length:=by simp only at C;omega
  subst D;exact hR w K.e (K.fin h)
def QC (H:Hw)(want:Int)(n:Nat):Hw×Nat:=(List.range n).foldl (λ(p:Hw×Nat) k=>if want<=(p.2:Int)then p else match p.1.ars[k]? with
 | some A=>({p.1.setA k (relS A p.1.sp (want-p.2)).1 with sp:=(relS A p.1.sp (want-p.2)).2},p.2+relV A (want-p.2))
 | none=>p) (H,0)
theorem UD (want:Int)(n:Nat):QC H want (n+1)=(if want<=((QC H want n).2:Int)then QC H want n else match (QC H want n).1.ars[n]? with
 | some A=>({(QC H want n).1.setA n (relS A (QC H want n).1.sp (want-(QC H want n).2)).1 with sp:=(relS A (QC H want n).1.sp (want-(QC H want n).2)).2},(QC H want n).2+relV A (want-(QC H want n).2))
 | none=>QC H want n):=by
 unfold QC;rw[zAC,zAT];rfl
theorem WbW {want:Int}{j:Nat}(h:want<=((QC H want j).2:Int)):∀n,j<=n->QC H want n=QC H want j
 | 0,hn=>by rw[show j=0 by omega]
 | n+1,hn=>by
  by_cases e:j=n+1
  ·rw[e]
  ·have ih:=WbW h n O;rw[UD,ih,zB h]
theorem Wgo (H:Hw)(want:Int)(n:Nat):Qc (QC H want n).1 H:=by
 induction n with
 | zero=>exact Qc.refl H
 | succ n ih=>
  rw[UD];split
  ·exact ih
  ·split
   ·exact ih.trans (Z9 _ _ _ _)
   ·exact ih
theorem WeY (h:HH σ F L H)(want:Int)(hw9:want<=9223372036854775807)(h12:∀n A,n<H.ars.length->(QC H want n).1.ars[n]?=some A->(Vw (YI A).st).length<=12)(hb:∀n,n<=H.ars.length->(QC H want n).2<=1000000){R:Int->Int->Hp->Prop}
 (h1:want<0->R 0 1 σ) (hR:0<=want->∀σ',Ext F σ σ'->HH σ' (Grow F σ) L (QC H want H.ars.length).1->R (((QC H want H.ars.length).2:Nat):Int) 0 σ'):YD.c (aW L.p) want σ R:=by
 refine YD.o ?_;unfold YD.v;refine Kz h (ifF rfl (ifD (λE=>h1 E) λE=>nilP (h.hd.rS rfl ?_)));have hR:=hR O;have Q:=h.arowL;have M:=h.s.a2;refine Km (a:=bN) (bb:=bN) (λ(x z:Int) w=>∃(j:Nat) (B P:Rg),z=(j:Int)/\x=((QC H want j).2:Int)/\j<=H.ars.length/\HK F σ B w P L (QC H want j).1) (λ_ z _=>H.ars.length-z.toNat) ⟨0,_,_,rfl,rfl,O,HK.start h⟩ ?_;rintro(x:Int) (z:Int) w ⟨j,B,P,rfl,rfl,hj,K⟩;refine ifD (λu=>?_) λy=>?_
 ·simp only at u;have g:j<H.ars.length:=by omega
  obtain⟨A,r⟩:∃A,(QC H want j).1.ars[j]?=some A:=⟨_,gGe (by rw[(Wgo H want j).2.2.2];exact g)⟩;obtain⟨Y,G,_,_⟩:=K.h.ar r;have S:=hb j hj;have J:=hb (j+1) O;refine K.h.rA G (ifD (λC=>?_) λC=>?_)
  ·rw[WbW O H.ars.length hj]at hR;exact hR w K.e (K.fin h)
  ·have d:=UD (H:=H) want j;rw[zA O,r]at d;simp only at d;refine ar O O (WdL K.h r G _ (h12 j A g r) λV U h1=>?_);have K1:=K.to U h1 λb _ hb=>hb;have W:(QC H want (j+1)).2=(QC H want j).2+relV A (want-(QC H want j).2):=by rw[d]
   have N:(QC H want (j+1)).1 = {(QC H want j).1.setA j (relS A (QC H want j).1.sp (want-(QC H want j).2)).1 with sp:=(relS A (QC H want j).1.sp (want-(QC H want j).2)).2}:=by rw[d]
   rw[←N]at K1;exact arN (m:=(QC H want (j+1)).2) O O (arN (m:=j+1) O O ⟨⟨j+1,_,_,rfl,rfl,O,K1⟩,O⟩)
 ·have D:j=H.ars.length:=by simp only at y;omega
  subst D;exact hR w K.e (K.fin h)
end Go.Ar
namespace Go.Ar
variable {A:AR}
theorem WgC (h:GA A)(hn:A.n<=208)(hlow:∀p,p<16->A.f p=0):(Vw (YI A).st).length<=12:=by
 obtain⟨o,_,_⟩:=Uv h;have a:(YI A).st.length=A.n:=by rw[o.ga.pg.len,o.kp.n]
 have g:∀p,p<16->(YI A).f p=0:=λp i=>(o.kp.z p).2 (hlow p i);have d:=h.pg.n1;unfold Vw;rw[a];have e:List.range (A.n/16)=0::(List.range (A.n/16-1)).map Nat.succ:=by
  rw[←zFR];congr 1;omega
 rw[e,zCK];have b:cntR (YI A).st (16*0) (16*0+16) 2=0:=(Hq O (by rw[a];omega)).2 λp m j r=>by
  have:=g p O;unfold AR.f at this;omega
 rw[b];have:¬(decide (0<0)=true):=by simp
 rw[zA this];refine zI (zBA _ _) ?_;rw[za,zBS];omega
def newW (tb:List Cls)(n room m:Nat):Wd:=⟨tb,Vp n,List.replicate m (newA n room tb),[]⟩
theorem WmG {n room:Nat}{tb:List Cls}(h1:32<=n)(h2:n<=1024)(h3:n%16=0)(h6:tb.length<=40)(h7:∀c∈tb,c.ok):GA (newA n room tb)/\∀p,(newA n room tb).f p=0:=by
 have g:∀p,(newA n room tb).f p=0:=λp=>by
  show(List.replicate n 0).getD p 0=0;rw[zL,zAV];split<;>rfl
 have a:∀{k:Nat} {i:List SpA},(List.replicate tb.length ([]:List SpA))[k]?=some i->i=[]:=λh=>by
  rw[zAV]at h;split at h<;>simp at h;exact h
 have b:∀{k:Nat} {t:TrA},(List.replicate tb.length (⟨0,[]⟩:TrA))[k]?=some t->t.bs=[]:=λh=>by
  rw[zAV]at h;split at h<;>simp at h;rw[←h]
 refine⟨⟨⟨by simp[newA],h1,h2,h3,λp=>by rw[g];omega,λp=>by rw[g];simp[newA],λp=>by rw[g];simp[newA,Go.Bu.emptyS],λp=>by rw[g,g]⟩,h6,by simp[newA],by simp[newA],λk c i d=>?_,λk c i d s m=>?_,λk c i d p=>?_,λp=>?_,λp=>.inr (Nat.zero_le _),by simp[newA],by simp[newA],λk t j=>?_,λk c i t d j=>?_,λk c t d j=>?_⟩,g⟩
 ·have e:=a d.2;subst e;exact⟨h7 c (zE d.1),by simp,by simp⟩
 ·have e:=a d.2;subst e;simp at m
 ·have e:=a d.2;subst e;constructor
  ·intro h;cases h
  ·rintro⟨s,m,_⟩;simp at m
 ·constructor
  ·intro h;cases h
  ·rintro⟨r,hr,_⟩;simp[newA]at hr
 ·have:=b j;rw[this];exact zCQ
 ·have:=b j;rw[this];simp
 ·have:=b j;rw[this];simp
theorem WmD {tb:List Cls}{n room m:Nat}(h1:32<=n)(h2:n<=1024)(h3:n%16=0)(h6:tb.length<=40)(h7:∀c∈tb,c.ok):WI (newW tb n room m):=by
 obtain⟨u,d⟩:=WmG (room:=room) h1 h2 h3 h6 h7;have get:∀{k:Nat} {A:AR},(newW tb n room m).ars[k]?=some A->A=newA n room tb:=λ{k A} h=>by
  have h:(List.replicate m (newA n room tb))[k]?=some A:=h;rw[zAV]at h;split at h<;>simp at h;exact h.symm
 have b:∀p,gf (Vp n).st p=0:=λp=>by
  show(List.replicate n 0).getD p 0=0;rw[zL,zAV];split<;>rfl
 refine⟨λk A h=>by rw[get h];exact u,λk A h=>?_,λk A h=>by rw[get h];rfl,λk A h p a=>by rw[get h];exact d p,λp a=>(a (b p)).elim,λp k l A B C G h1 h2=>?_,zCQ,λp a=>by simp[newW]at a,λk A h j y w=>?_,λk A h r x=>?_⟩
 ·rw[get h];exact⟨by simp[newW,Vp,newA],λp a=>(a (d p)).elim,λp a=>by rw[d p]at a;omega,λp=>by show gf (Vp n).st p<=2;rw[b];omega⟩
 ·rw[get C]at h1;exact(h1 (d p)).elim
 ·rw[get h]at w;obtain⟨c,E,g,z⟩:=w;have e:E=[]:=by
   have h2:=g.2;simp only[newA]at h2;rw[zAV]at h2;split at h2<;>simp at h2;exact h2
  subst e;obtain⟨F,s,i,D,_⟩:=(Uc (u.cen _ _ _ g)).1 z;simp at D
 ·rw[get h]at x;simp[newA]at x
end Go.Ar
namespace Go.Ar
open Go.Vc (mget mset mdel)
variable {H H':Hw}{held:List Pc}{s0:Sp}{t k j:Nat}{g:Th}{A:AR}{c:Cls}
theorem Wow {tb:List Cls}{cf:Cf}(h1:32<=cf.pages)(h2:cf.pages<=1024)(h3:cf.pages%16=0)(h4:1<=cf.arenas)(h6:tb.length<=40)(h7:∀c∈tb,c.ok):HI (Ue tb cf) [] (Vp cf.pages):=by
 have w:=WmD (tb:=tb) (n:=cf.pages) (room:=cf.room) (m:=cf.arenas) h1 h2 h3 h6 h7;have d:∀g∈(Ue tb cf).ths,g=⟨List.replicate tb.length liN,[],none⟩:=λg i=>(zFE.1 i).2;have r:∀k,(List.replicate tb.length liN).getD k liN=liN:=λk=>by
  rw[zL,zAV];split<;>rfl
 refine⟨w,Sim.refl _,λk x=>?_,zCQ,λe u=>by simp[Ue]at u,λg i s a j=>?_,λg i=>?_,h7,?_,?_⟩
 ·have z:∀(n:Nat) (f:Th->Nat) (g:Th),f g=0->((List.replicate n g).map f).sum=0:=λn f g h=>by
   rw[zDH,h]
   induction n with
   | zero=>rfl
   | succ n ih=>rw[zEU,zp,ih]
  have B:cnT ⟨List.replicate tb.length liN,[],none⟩ k x=0:=by
   unfold cnT cnL;split
   ·simp only[r];rfl
   ·rfl
  have:cnH (Ue tb cf) k x=0:=by
   unfold cnH;show cnV [] k x+((List.replicate cf.threads (⟨List.replicate tb.length liN,[],none⟩:Th)).map λg=>cnT g k x).sum=0;rw[z _ _ _ B];rfl
  rw[this,QS];rintro⟨p,j,_⟩;simp at j
 ·rw[d g i]at j;cases j
 ·rw[d g i];refine⟨by simp[Ue],λl A=>?_,λb y=>by simp at y,by simp,by unfold PhI;rfl⟩;rw[(zFE.1 A).2];exact⟨LiOk.nil,by simp[liN]⟩
 ·show 1<=(List.replicate cf.arenas (newA cf.pages cf.room tb)).length;simpa using h4
 ·show(List.replicate cf.pages 0).length=cf.pages;simp
def KL (H H':Hw):Prop:=∀e∈H.live,∀w:Nat,e.1<=((8*w:Nat):Int)->((8*w:Nat):Int)<e.1+e.2.2.1->H'.sp.wd w=H.sp.wd w
theorem HI.wi' (h:HI H held s0):WI ⟨H.tb,s0,H.ars,held⟩:=h.wi
theorem HI.mapped (h:HI H held s0){p:Pc}(hp:p∈held){x:Nat}(h1:p.addr<=x)(h2:x<p.addr+p.size):gf H.sp.st (x/256)≠0:=by
 obtain⟨A,a,_⟩:=h.wi.hf p hp;have b:=h.wi.page hp a h1 h2;have:=(h.wi.ow _ A a).own (x/256) O;intro hz;exact this ((h.sim.z _).1 hz)
theorem HI.kl (h:HI H held s0)(k:KS H.sp H'.sp):KL H H':=λe b w i g=>by
 obtain⟨_,p,d,_,_,m,j,_⟩:=h.lv e b;have a:=h.mapped d (x:=8*w) O O;exact(k.k _ a).2 w O
theorem KL.refl (H:Hw):KL H H:=λ_ _ _ _ _=>rfl
theorem KL.trans {H1 H2 H3:Hw}(a:KL H1 H2)(b:KL H2 H3)(hl:∀e∈H1.live,e∈H2.live):KL H1 H3:=λe i w g d=>(b e (hl e i) w g d).trans (a e i w g d)
structure ArOk (H H':Hw):Prop where
 hi:∃held s0,HI H' held s0
 live:H'.live=H.live
 ths:H'.ths=H.ths
 kp:Qc H' H
 kl:KL H H'
theorem ArOk.refl (h:HI H held s0):ArOk H H:=⟨⟨_,_,h⟩,rfl,rfl,Qc.refl _,KL.refl _⟩
theorem ArOk.trans {H1 H2 H3:Hw}(a:ArOk H1 H2)(b:ArOk H2 H3):ArOk H1 H3:=⟨b.hi,b.live.trans a.live,b.ths.trans a.ths,a.kp.trans b.kp,a.kl.trans b.kl λe d=>by rw[a.live];exact d⟩
theorem HI.n (h:HI H held s0)(hk:H.ars[k]?=some A):A.n=H.cf.pages:=by
 have:=(h.wi.ow k A hk).l;have a:=h.sim.l;have b:=h.sl;simp only at this;omega
theorem HI.few (h:HI H held s0)(h208:H.cf.pages<=208)(hk:H.ars[k]?=some A):(Vw (YI A).st).length<=12:=WgC (h.wi.ga k A hk) (by rw[h.n hk];exact h208) (h.wi.low k A hk)
theorem WoY (h:HI H held s0)(hk:H.ars[k]?=some A){B:AR}{s0' sp':Sp}(wi:WI ⟨H.tb,s0',H.ars.set k B,held⟩)(hw:∀w,B.f (w/32)=1->sp'.wd w=H.sp.wd w)(hoth:∀w,A.f (w/32)=0->B.f (w/32)=0->sp'.wd w=H.sp.wd w):KL H {H.setA k B with sp:=sp'}:=by
 intro e he w h1 h2;obtain⟨_,p,d,_,_,s,r,_⟩:=h.lv e he;obtain⟨C,j,_⟩:=h.wi.hf p d;obtain⟨D,a,_⟩:=wi.hf p d;have m:=h.wi.page d j (x:=8*w) O O;have i:=wi.page d a (x:=8*w) O O;rw[show 8*w/256=w/32 by omega]at m i;have b:=(gSi.1 hk).1;by_cases hpk:p.k=k
 ·have g:(H.ars.set k B)[k]?=some B:=zM b;have a:(H.ars.set k B)[p.k]?=some D:=a;rw[hpk,g]at a;cases a;exact hw w i
 ·refine hoth w ?_ ?_
  ·apply Classical.byContradiction;intro hn;exact hpk (h.wi.one (w/32) p.k k C A j hk O hn)
  ·have g:(H.ars.set k B)[k]?=some B:=zM b;apply Classical.byContradiction;intro hn;exact hpk (wi.one (w/32) p.k k D B a g O hn)
theorem Woq (h:HI H held s0)(hk:H.ars[k]?=some A)(want:Int):ArOk H {H.setA k (relS A H.sp want).1 with sp:=(relS A H.sp want).2}:=by
 have ga:=h.wi.ga k A hk;obtain⟨j,g,B⟩:=h.sim.relS A want;obtain⟨s,x,r,u⟩:=WmB ga (h.wi.ow k A hk) want;have wi:=h.wi.stepSame hk s x u r;rw[show(Wd.mk H.tb s0 H.ars held).sp=s0 from rfl,←j]at wi;have m:=h.updA wi g B (by simp[Wd.put]) (λ_ _=>Iff.rfl) (λp y _=>y);have key:KL H {H.setA k (relS A H.sp want).1 with sp:=(relS A H.sp want).2}:=by
  by_cases h0:want<0
  ·have:relS A H.sp want=(A,H.sp):=by unfold relS;rw[zB h0]
   rw[this];exact λ_ _ _ _ _=>rfl
  ·obtain⟨z,_⟩:=Wha ga (h.wi.ow k A hk) (want:=want) O;have b:=Uv ga;have a:∀w,¬inR (V3 A want) (w/32)->(relS A H.sp want).2.wd w=H.sp.wd w:=λw d=>by
    rw[g.w,z.wd w d,h.sim.w]
   refine WoY h hk wi (λw d=>a w λe=>?_) λw C _=>a w λe=>?_
   ·have:=(z.i _ e).2.1;rw[j]at d;simp only at this;omega
   ·have:=(z.i _ e).1;have:=(b.1.kp.z (w/32)).2 C;omega
 exact⟨⟨_,_,m⟩,rfl,rfl,Z9 _ _ _ _,key⟩
theorem WmF (h:HI H held s0)(hk:H.ars[k]?=some A):ArOk H {H.setA k (trimS A H.sp).1 with sp:=(trimS A H.sp).2}:=by
 have ga:=h.wi.ga k A hk;obtain⟨g,e,r⟩:=h.sim.trimS A;have z:=WkJ ga (h.wi.ow k A hk);have wi:=h.wi.stepSame hk z.st z.runs (λj y=>by unfold TkA Cl;rw[z.st.tb,z.cen]) z.tra;rw[show(Wd.mk H.tb s0 H.ars held).sp=s0 from rfl,←g]at wi;have i:=h.updA wi e r (by simp[Wd.put]) (λ_ _=>Iff.rfl) (λp m _=>m);have a:∀w,w/32/16∉Kg A.st 0->(trimS A H.sp).2.wd w=H.sp.wd w:=λw d=>by
  rw[e.w,z.wd w d,h.sim.w]
 have key:KL H {H.setA k (trimS A H.sp).1 with sp:=(trimS A H.sp).2}:=by
  refine WoY h hk wi (λw d=>a w λb=>?_) λw s _=>a w λb=>?_
  ·rw[g,z.f,zB b]at d;omega
  ·have:=((WcZ ga).1 b).2 (w/32) rfl;omega
 exact⟨⟨_,_,i⟩,rfl,rfl,Z9 _ _ _ _,key⟩
theorem Wmu (h:HI H held s0)(hk:H.ars[k]?=some A):ArOk H (H.setA k (UX A)):=by
 have wi:=h.wi.tick hk;have a:=h.updA (sp':=H.sp) wi h.sim rfl (by simp[Wd.put]) (WnB _) (λp b _=>(zH.1 b).1);exact⟨⟨_,_,a⟩,rfl,rfl,Z9 _ _ _ H.sp,λ_ _ _ _ _=>rfl⟩
theorem WjE (h:HI H held s0)(n:Nat):ArOk H (Uo H n):=by
 induction n with
 | zero=>exact ArOk.refl h
 | succ n ih=>
  rw[U3];split
  ·rename_i A hA;obtain⟨a,b,d⟩:=ih.hi;exact ih.trans (Wmu d hA)
  ·exact ih
theorem Wh6 (st:List Nat)(k:Nat):(Kg st k).length<=st.length/16:=by
 unfold Kg;exact zI (zBA _ _) aA
theorem Wik (h:HI H held s0)(n:Nat):ArOk H (QG H n).1/\(QG H n).2<=n*64:=by
 induction n with
 | zero=>exact⟨ArOk.refl h,zC _⟩
 | succ n a=>
  obtain⟨a,g⟩:=a;rw[U9];split
  ·rename_i A hA;obtain⟨b,e,d⟩:=a.hi;refine⟨a.trans (WmF d hA),?_⟩;have ga:=d.wi.ga n A hA;have j:=Wh6 A.st 0;have i:=ga.pg.len;have m:=ga.pg.n2;simp only[Wgu];omega
  ·exact⟨a,O⟩
theorem WaH (st:List Nat)(e:Nat):∀(f p:Nat),(QX st e f p).length<=f/\∀r∈QX st e f p,r.2<=e-p
 | 0,p=>⟨by simp[QX],by simp[QX]⟩
 | f+1,p=>by
  unfold QX;split
  ·exact⟨by simp,by simp⟩
  ·split
   ·obtain⟨h1,h2⟩:=WaH st e f (p+1);exact⟨O,λr a=>by have:=h2 r a;omega⟩
   ·obtain⟨h1,h2⟩:=WaH st e f (p+runL st p (e-p)+1);refine⟨by simp;omega,λr a=>?_⟩;rcases zQ.1 a with rfl|a
    ·have:runL st p (e-p)<=e-p:=by
      unfold runL;refine zI (List.Sublist.length_le (List.takeWhile_sublist _)) ?_;rw[zO];omega
     exact this
    ·have:=h2 r a;omega
theorem sum_le {α:Type}(f:α->Nat)(c:Nat):∀l:List α,(∀x∈l,f x<=c)->(l.map f).sum<=l.length*c
 | [],_=>by simp
 | x::l,h=>by
  have h1:=sum_le f c l λy a=>h y (by simp[a]);have b:=h x aA;rw[zJ,zp,zP,zj];omega
theorem Wng (h:GA A)(want:Int):relV A want<=17408:=by
 unfold relV;split
 ·omega
 ·have i:=(Uv h).1;have u:(YI A).st.length<=1024:=by rw[i.ga.pg.len];exact i.ga.pg.n2
  unfold V3 HM;have a:=WcS want 0 ((ordT (YI A).st).flatMap (KP (YI A).st));have d:∀x,(KP (YI A).st x).length<=17/\∀r∈KP (YI A).st x,r.2<=16:=λx=>by
   have:=WaH (YI A).st (16*x+16) 17 (16*x);exact⟨this.1,λr b=>by have:=this.2 r b;omega⟩
  have g:((ordT (YI A).st).flatMap (KP (YI A).st)).length<=64*17:=by
   rw[List.length_flatMap];refine zI (sum_le (λx=>(KP (YI A).st x).length) 17 _ λx _=>(d x).1) ?_;have w:=(WdI (YI A).st).length_eq;have m:=zBA (λh=>decide (0<cntR (YI A).st (16*h) (16*h+16) 2)) (List.range ((YI A).st.length/16));rw[zBS]at m;have:(ordT (YI A).st).length<=64:=by omega
   omega
  have e:∀r∈(ordT (YI A).st).flatMap (KP (YI A).st),r.2<=16:=λr b=>by
   obtain⟨x,_,j⟩:=zCP.1 b;exact(d x).2 r j
  have s:=sum_le (λr:Nat×Nat=>r.2) 16 (cutW want 0 ((ordT (YI A).st).flatMap (KP (YI A).st))) λr b=>e r (a.subset b);have p:=a.length_le;omega
theorem WkI (h:HI H held s0)(want:Int)(n:Nat):ArOk H (QC H want n).1/\(QC H want n).2<=n*17408:=by
 induction n with
 | zero=>exact⟨ArOk.refl h,zC _⟩
 | succ n a=>
  obtain⟨a,d⟩:=a;rw[UD];split
  ·exact⟨a,zI d (zAK _ (Nat.le_succ n))⟩
  ·split
   ·rename_i A hA;obtain⟨b,g,e⟩:=a.hi;refine⟨a.trans (Woq e hA _),?_⟩;have:=Wng (e.wi.ga n A hA) (want-((QC H want n).2:Int));simp only;omega
   ·exact⟨a,zI d (zAK _ (Nat.le_succ n))⟩
theorem WI.wd {W:Wd}(h:WI W)(f:Nat->Int):WI {W with sp:={W.sp with wd:=f}}:=
 ⟨h.ga,λk A hk=>⟨(h.ow k A hk).l,(h.ow k A hk).own,(h.ow k A hk).cl,(h.ow k A hk).le⟩,h.tb,h.low,h.own,h.one,h.hk,h.hf,h.ht,h.hr⟩
theorem WhI {sp:Sp}{x:Int}(h:accE sp x=0):0<=x/\x%8=0/\gf sp.st (x.toNat/256)≠0:=by
 unfold accE at h;split at h
 ·cases h
 ·split at h
  ·cases h
  ·exact⟨O,O,by assumption⟩
theorem Wh0 (sp:Sp)(x v:Int):(UT sp x v).st.length=sp.st.length/\(∀p,gf (UT sp x v).st p=0↔gf sp.st p=0)/\∀w,(UT sp x v).wd w=if accE sp x=0/\w=x.toNat/8 then v else sp.wd w:=by
 unfold UT;split
 ·rename_i h0;have a:=WhI h0;refine⟨by simp[putW],λp=>?_,λw=>?_⟩
  ·show gf (sp.st.set (x.toNat/8/32) 2) p=0↔_;have b:x.toNat/8/32=x.toNat/256:=by omega
   rw[b];unfold gf at a ⊢;rw[zL]at a ⊢;rw[zL,zBI];split
   ·rename_i he;split
    ·rw[←he];simp only[zBU];exact⟨λh=>O,λh=>(a.2.2 h).elim⟩
    ·rename_i hl;rw[zZ O]at a;exact(a.2.2 rfl).elim
   ·exact Iff.rfl
  ·show(if w=x.toNat/8 then v else sp.wd w)=_
   by_cases hw:w=x.toNat/8
   ·rw[zB hw,zB ⟨h0,hw⟩]
   ·rw[zA hw,zA λh=>hw h.2]
 ·exact⟨rfl,λ_=>Iff.rfl,λw=>by rw[zA λh=>by have:=h.1;contradiction]⟩
theorem HI.write (h:HI H held s0)(x v:Int):HI {H with sp:=UT H.sp x v} held {s0 with wd:=(UT H.sp x v).wd}:=by
 obtain⟨a,b,_⟩:=Wh0 H.sp x v;exact⟨h.wi.wd _,⟨a.trans h.sim.l,λp=>(b p).trans (h.sim.z p),rfl⟩,h.cn,h.lk,h.lv,h.gv,h.th,h.ok,h.a1,a.trans h.sl⟩
end Go.Ar
namespace Go.Ar
open Go Go.Vc Go.Proofs
variable {σ u w w':Hp}{F B P Q:Rg}{L:LayH}{H H':Hw}{t n:Nat}{g:Th}
end Go.Ar
namespace Go.Proofs
open Go.Vc
set_option maxRecDepth 100000
def W0.h:Hn:=.q .o2 (.q (.q (.reg (.seq [.op,.op,.op,.grd false 2 [.op,.op]])) .aJ) (.q .o1 (.q .o1 (.q (.k (.loop [(4,.one .s),(5,.I)] (.q (.q .o2 (.c .l .l)) (.k (.q .o7 .o6))))) (.q .o6 (.q .o1 (.q (.q .o1 (.k (.loop [(6,.one .s),(7,.I)] (.q (.q .o4 (.c .l .l)) (.q (.k (.q (.reg (.heldJ true [] [(70,.one .b)] (.tk [0,1,2,3,4,5] (.split 43 (.tk [6,7,8,9,10,11,12,13,14,15,16,17,18,19,20,21,22,23,24,25,26,27,28,29,30,31,32] (.done)) (.tk [6,7,8,9,10,11,12,13,14,15,16,17,18,19] (.split 57 (.tk [20,21,22,23,24,25,26,27,28,29,30,31,32] (.done)) (.tk [20,21,22,23,25,26,27,28,29] (.all [(24,.all [(30,.take 31 (.take 32 (.done)))])])))))))) (.c .o8 .l))) .o3))))) (.q .o3 .l))))))))
def W0.v (a:Int)(b:Hp)(c:Sl->Int->Hp->Prop):Prop:=JnB (λd e=>If d (c ⟨none,0,0⟩ 1 e) (W7 [.s,bN] (λf=>f ⟨none,0,0⟩ 8 e) λg (h:Sl) (i:Int) j=>If (i<512) (Xl.c i a j λk l m n=>aV #[.I k,.I l,.I m] 31 n λo p=>App h 3 24 31 [.I 0,.I 0,.I 0] ⟨some o,1,1⟩ p λq r=>X8.c i a r λs t=>bL (i+s) λu=>g q u t) (Xl.c 512 a j λv w x y=>aV #[.I v,.I w,.I x] 31 y λz aa=>App h 3 24 31 [.I 0,.I 0,.I 0] ⟨some z,1,1⟩ aa λab ac=>W7 [.s,bN] (λad=>ad ⟨none,0,0⟩ 0 ac) λae (af:Sl) (ag:Int) ah=>If (ag<((ab.len:Nat):Int)) (Jn [.b] (λ(ai:Bool) aj=>If ai (Ix ab.a ab.len ag 3 λak=>aQ ak 0 aj λal=>aQ ak 1 aj λam=>aQ ak 2 aj λan=>aV #[.I al,.I am,.I an] 31 aj λao ap=>App af 3 24 31 [.I 0,.I 0,.I 0] ⟨some ao,1,1⟩ ap λaq ar=>bL (ag+1) λau=>ae aq au ar) (bL (ag+1) λav=>ae af av aj)) λaw=>Held ah λax=>bL (((ab.len:Nat):Int)-1) λay=>If (ag==ay) (aw true ah) (Ix ab.a ab.len ag 3 λaz=>aS ax az 1 λa0=>bL (ag+1) λa1=>Ix ab.a ab.len a1 3 λa2=>aS ax a2 1 λa3=>If (a0 != a3) (aw true ah) (Ix ab.a ab.len ag 3 λa4=>aS ax a4 0 λa5=>aS ax a4 1 λa6=>aS ax a4 2 λa7=>bL (ag+1) λa8=>Ix ab.a ab.len a8 3 λa9=>aS ax a9 0 λba=>aS ax a9 1 λbb=>aS ax a9 2 λbc=>WS.c a5 a6 a7 ah λbd be=>And (ax be) <|
 WS.c ba bb bc be λbf bg=>And (ax bg) <| aw (bd != bf) bg))) (c af 0 ah)))) λbh=>If (a<2) (bh true b) (bh (decide (a>16)) b)
theorem W0.o {a b c}(d:W0.v a b c):W0.c a b c:=Wa Tryz.func16 (x:=W0.h) (R0 d)
def WS.h:Hn:=.q .o2 (.q .o1 (.q (.k (.loop [(3,.I)] (.q (.q .o9 (.c .l .l)) (.k .o3)))) .aL))
def WS.v (a b c:Int)(d:Hp)(e:aN):Prop:=aV #[.I a,.I b,.I c] 31 d λf g=>W7 [bN] (λh=>h 0 g) λi (j:Int) k=>bL (j+1) λl=>aQ f 0 k λm=>bL (l*m) λn=>aQ f 1 k λo=>bL (o*256) λp=>If (n<=p) (bL (j+1) λq=>i q k) (e j k)
theorem WS.o {a b c d e}(f:WS.v a b c d e):WS.c a b c d e:=Wa Tryz.func18 (x:=WS.h) (R0 f)
def Xl.h:Hn:=.q .o1 (.q .o8 (.q (.q .o1 (.k (.loop [(6,.I)] (.q (.q .o2 (.c .l .l)) (.q (.k (.q (.reg (.seq [.op,.op,.op,.op,.op,.grd true 9 (RI.ops 9)])) (.c .o3 .l))) .o3))))) .aL))
def Xl.v (a b:Int)(c:Hp)(d:Int->Int->Int->Hp->Prop):Prop:=aV #[.I 0,.I 0,.I 0] 31 c λe f=>Nz a<|bL ((512:Int).tdiv a) λg=>aV #[.I 0,.I 0,.I 0] 31 f λh i=>aR h 0 (.I a) i λj=>aR h 1 (.I 4) j λk=>aR h 2 (.I (if 32<(if 2>g then 2 else g)then 32 else(if 2>g then 2 else g))) k λl=>W7 [bN] (λm=>m 4 l) λn (o:Int) p=>If (o≥1) (bL (o*256) λq=>JnB (λr s=>If r (aR h 1 (.I o) s λt=>bL (o-1) λu=>n u t) (bL (o-1) λv=>n v s)) λw=>If (q≥a) (bL (o*256) λx=>Nz a <| bL (b*(x.tmod a)) λy=>bL (o*256) λz=>w (decide (y<=z)) p) (w false p)) (aQ h 0 p λaa=>aQ h 1 p λab=>aQ h 2 p λac=>aR e 0 (.I aa) p λad=>aR e 1 (.I ab) ad λae=>aR e 2 (.I ac) ae λaf=>aQ e 0 af λag=>aQ e 1 af λah=>aQ e 2 af λai=>d ag ah ai af)
theorem Xl.o {a b c d}(e:Xl.v a b c d):Xl.c a b c d:=Wa Tryz.func47 (x:=Xl.h) (R0 e)
def X8.h:Hn:=.q .o1 (.q .o1 (.q (.k (.loop [(5,.I)] (.q (.q .o6 (.c .l .l)) (.k .o3)))) .aL))
def X8.v (a b:Int)(c:Hp)(d:aN):Prop:=W7 [bN] (λe=>e 8 c) λf (g:Int) h=>bL (2*g) λi=>Nz b<|bL (a.tdiv b) λj=>If (i<=j) (bL (2*g) λk=>f k h) (d g h)
theorem X8.o {a b c d}(e:X8.v a b c d):X8.c a b c d:=Wa Tryz.func48 (x:=X8.h) (R0 e)
end Go.Proofs
namespace Go.Ar
open Go Go.Vc Go.Proofs
variable {σ w:Hp}
abbrev T3:=Int×Int×Int
def v3 (x:T3):List Value:=[.int .i64 x.1,.int .i64 x.2.1,.int .i64 x.2.2]
def v3s (l:List T3):List Value:=l.flatMap v3
theorem V4 (l:List T3):(v3s l).length=l.length*3:=by
 induction l with
 | nil=>rfl
 | cons x l ih=>simp only[v3s,zBB,zK,v3,zP,zAP]at *;omega
theorem Wb7 (l:List T3)(x:T3):v3s (l++[x])=v3s l++v3 x:=by simp[v3s]
theorem Gz:∀{l:List T3} {i:Nat} {x:T3},l[i]?=some x->∀{d:Nat},d<3->(v3s l)[i*3+d]?=(v3 x)[d]?
 | [],_,_,h,_,_=>by simp at h
 | y::l,0,x,h,d,hd=>by
  simp at h;subst h;have e:v3s (y::l)=v3 y++v3s l:=rfl;rw[e,zd (by simp[v3];omega)];congr 1;omega
 | y::l,i+1,x,h,d,hd=>by
  have e:v3s (y::l)=v3 y++v3s l:=rfl;have a:(v3 y).length=3:=rfl;rw[e,zm O,a,show(i+1)*3+d-3=i*3+d by omega];exact Gz (by simpa using h) hd
theorem Wfw {Q:Rg}{s:Sl}{l:List T3}(h:Own Q σ s 3 (v3s l)):Acts σ s l:=by
 have u:=h.1;rw[V4]at u;refine⟨O,λi x y z d=>?_⟩;obtain⟨b,e,g⟩:=h.cell (j:=i*3+0) (v:=.int .i64 x) ((Gz d O).trans rfl);obtain⟨r,a,p⟩:=h.cell (j:=i*3+1) (v:=.int .i64 y) ((Gz d O).trans rfl);rw[e]at a;cases a;obtain⟨r,a,m⟩:=h.cell (j:=i*3+2) (v:=.int .i64 z) ((Gz d O).trans rfl);rw[e]at a;cases a;refine⟨b,0,e,QV g,?_,?_,?_⟩
 ·rw[show 0+i*3=i*3+0 by omega];exact g
 ·rw[show 0+i*3+1=i*3+1 by omega];exact p
 ·rw[show 0+i*3+2=i*3+2 by omega];exact m
def Waq (s w:Int)(n:Nat):Int:=([4,3,2,1].take n).foldl (λ(r p:Int)=>if s<=p*256/\w*((p*256)%s)<=p*256 then p else r) 4
def WfH (s:Int):Int:=min 32 (max 2 (512/s))
def mCls (s w:Int):T3:=(s,Waq s w 4,WfH s)
def stF:Nat->Int->Int->Int
 | 0,d,_=>d
 | n+1,d,q=>if 2*d<=q then stF n (2*d) q else d
def WhL (s w:Int):Int:=stF 8 8 (s/w)
def mObj (x:T3):Int:=x.2.1*256/x.1
theorem Wio (s w:Int)(n:Nat):1<=Waq s w n/\Waq s w n<=4:=by
 have key:∀(l:List Int) (r:Int),(∀p∈l,1<=p/\p<=4)->1<=r/\r<=4->1<=l.foldl (λ(r p:Int)=>if s<=p*256/\w*((p*256)%s)<=p*256 then p else r) r/\l.foldl (λ(r p:Int)=>if s<=p*256/\w*((p*256)%s)<=p*256 then p else r) r<=4:=by
  intro l
  induction l with
  | nil=>intro r _ h;exact h
  | cons p l ih=>
   intro r hl hr;rw[zAI];refine ih _ (λq a=>hl q (zAJ _ a)) ?_;split
   ·exact hl p zAN
   ·exact hr
 refine key _ _ (λp b=>?_) O;have:=zAR b;simp at this;omega
theorem Wd0 (s w:Int)(h1:8<=s)(h2:s<=512)(hw1:2<=w)(hw2:w<=16){R:Int->Int->Int->Hp->Prop}(hR:∀σ',Ext0 σ σ'->R (mCls s w).1 (mCls s w).2.1 (mCls s w).2.2 σ'):Xl.c s w σ R:=by
 refine Xl.o ?_;unfold Xl.v;have V:1<=512/s/\512/s<=64:=⟨by rw[Int.le_ediv_iff_mul_le O];omega,Int.ediv_le_of_le_mul O O⟩;refine nw (cs:=[.int .i64 0,.int .i64 0,.int .i64 0]) λv hz e Z=>nz O (ar (by rw[YL O];omega) (by rw[YL O];omega) ?_);rw[YL O];refine nw (cs:=[.int .i64 0,.int .i64 0,.int .i64 0]) λv1 hz1 G D=>D.s1 aA λv2 o2 A=>A.s1 aA λN o3 j=>j.s1 aA λv4 o4 H=>?_;have b:σ.size≠v.size:=by omega
 have y:=Ws o4 (Ws o3 (Ws o2 (G.blk Z id) b) b) b;have P:Ext0 σ v4:=((((e.trans G).only o2 (.inr O)).only o3 (.inr O)).only o4 (.inr O));have g:(if 32<(if 2>512/s then 2 else 512/s)then 32 else(if 2>512/s then 2 else 512/s))=WfH s:=by unfold WfH;omega
 rw[g]at H;refine ZT (a:=bN) (λ(z:Int) u=>∃n:Nat,n<=4/\z=4-(n:Int)/\Ext0 σ u/\Blk u σ.size [.int .i64 0,.int .i64 0,.int .i64 0]/\Blk u v.size [.int .i64 s,.int .i64 (Waq s w n),.int .i64 (WfH s)]) (λz _=>z.toNat) ⟨0,O,rfl,P,y,H⟩ ?_;rintro(z:Int) u ⟨n,hn,rfl,eu,hu,bu⟩;refine ifD (λS=>?_) λQ=>?_
 ·have Y:n<4:=by omega
  have d:Waq s w (n+1)=if s<=(4-(n:Int))*256/\w*(((4-(n:Int))*256)%s)<=(4-(n:Int))*256 then 4-(n:Int)else Waq s w n:=by
   have ht:([4,3,2,1]:List Int)[n]?=some (4-(n:Int)):=by
    rcases(show n=0\/n=1\/n=2\/n=3 by omega)with rfl|rfl|rfl|rfl<;>rfl
   unfold Waq;rw[zg,ht,zAT];rfl
  refine ar O O ?_;refine UW (λr F=>F=u/\r=decide (s<=(4-(n:Int))*256/\w*(((4-(n:Int))*256)%s)<=(4-(n:Int))*256)) (λr F ⟨E,x⟩=>?_) λJ K=>?_
  ·subst E;by_cases hc:s<=(4-(n:Int))*256/\w*(((4-(n:Int))*256)%s)<=(4-(n:Int))*256
   ·rw[zU hc]at x;rw[zB hc]at d;refine ifT x (bu.s1 aA λL o1 B=>ar O O ⟨⟨n+1,O,O,eu.only o1 (.inr O),Ws o1 hu b,by rw[d];exact B⟩,O⟩)
   ·rw[zi hc]at x;rw[zA hc]at d;exact ifF x (ar O O ⟨⟨n+1,O,O,eu,hu,by rw[d];exact bu⟩,O⟩)
  ·have m:=Int.emod_nonneg ((4-(n:Int))*256) (show s≠0 by omega);have U:=Int.emod_lt_of_pos ((4-(n:Int))*256) (show 0<s by omega);have X:w*(((4-(n:Int))*256)%s)<=16*512:=Int.mul_le_mul hw2 O m O;have M:0<=w*(((4-(n:Int))*256)%s):=Int.mul_nonneg O m;refine ifD (λh1=>ar O O (nz O ?_)) λh1=>K _ _ ⟨rfl,(zi λp=>h1 p.1).symm⟩;rw[Q8 O];refine ar O O (ar O O (K _ _ ⟨rfl,?_⟩));rw[decide_eq_decide];exact⟨λp=>⟨h1,p⟩,λp=>p.2⟩
 ·have C:n=4:=by omega
  subst C;refine bu.rI rfl (bu.rI rfl (bu.rI rfl (hu.s1 aA λL o1 B=>B.s1 aA λu2 o2 A=>A.s1 aA λW o3 j=>j.rI rfl (j.rI rfl (j.rI rfl (hR W ?_))))));exact((eu.only o1 (.inr O)).only o2 (.inr O)).only o3 (.inr O)
theorem Wlv (s w:Int)(h1:8<=s)(h2:s<=512)(hw1:2<=w){R:aN}(hR:8<=WhL s w->WhL s w<=256->R (WhL s w) σ):X8.c s w σ R:=by
 refine X8.o ?_;unfold X8.v;have j:0<=s/w/\s/w<=256:=⟨Int.ediv_nonneg O O,by
  have:s/w<=s/2:=by
   apply Int.le_ediv_of_mul_le O;have:=Int.ediv_mul_le s (show w≠0 by omega);have g:s/w*2<=s/w*w:=Int.mul_le_mul_of_nonneg_left hw1 (Int.ediv_nonneg O O);omega
  omega⟩
 refine ZT (a:=bN) (λ(d:Int) u=>u=σ/\∃n:Nat,stF n d (s/w)=WhL s w/\8<=d/\d<=256/\512<=d*2^n) (λd _=>1000-d.toNat) ⟨rfl,8,rfl,O,O,by decide⟩ ?_;rintro(d:Int) u ⟨rfl,n,hst,hd1,hd2,hdn⟩;refine ar O O (nz O (ar (by rw[YL O];omega) (by rw[YL O];omega) ?_));rw[YL O];cases n with
 | zero=>simp at hdn;omega
 | succ n=>
  refine ifD (λb=>ar O O ⟨⟨rfl,n,?_,O,O,?_⟩,O⟩) λe=>?_
  ·rw[stF,zB b]at hst;exact hst
  ·rw[Int.pow_succ]at hdn;have:2*d*2^n=d*(2^n*2):=by rw[Int.mul_comm 2 d,Int.mul_assoc,Int.mul_comm 2 (2^n)]
   omega
  ·rw[stF,zA e]at hst;rw[←hst]at hR;exact hR hd1 hd2
theorem Wi0 (x:T3)(h1:8<=x.1)(h2:x.1<=512)(h3:1<=x.2.1)(h4:x.2.1<=4){R:aN}(hR:∀σ',Ext0 σ σ'->R (mObj x) σ'):WS.c x.1 x.2.1 x.2.2 σ R:=by
 refine WS.o ?_;unfold WS.v;refine nw (cs:=[.int .i64 x.1,.int .i64 x.2.1,.int .i64 x.2.2]) λv s e j=>?_;refine ZT (a:=bN) (λ(n:Int) u=>Ext0 σ u/\Blk u σ.size [.int .i64 x.1,.int .i64 x.2.1,.int .i64 x.2.2]/\0<=n/\n<=128/\n*x.1<=x.2.1*256) (λn _=>1000-n.toNat) ⟨e,j,O,O,O⟩ ?_;rintro(n:Int) u ⟨eu,bu,hn0,hn1,hn⟩;have p:(n+1)*x.1<=129*512:=Int.mul_le_mul O h2 O O;have g:0<=(n+1)*x.1:=Int.mul_nonneg O O;refine ar O O (bu.rI rfl (ar O O (bu.rI rfl (ar O O ?_))));refine ifD (λb=>ar O O ⟨⟨eu,bu,O,?_,b⟩,O⟩) λm=>?_
 ·have:(n+1)*8<=(n+1)*x.1:=Int.mul_le_mul_of_nonneg_left h1 O;omega
 ·have:mObj x=n:=by
   unfold mObj;have r:n<=x.2.1*256/x.1:=(Int.le_ediv_iff_mul_le O).2 hn;have w:x.2.1*256/x.1<n+1:=(Int.ediv_lt_iff_lt_mul O).2 O;omega
  have d:=hR u eu;rw[this]at d;exact d
def allF:Nat->Int->Int->List T3
 | 0,_,_=>[]
 | n+1,s,w=>if s<512 then mCls s w::allF n (s+WhL s w) w else[]
def allM (w:Int):List T3:=allF 64 8 w++[mCls 512 w]
def WaF (l:List T3)(i:Nat):Bool:=i==l.length-1||(match l[i]?,l[i+1]? with
 | some x,some y=>x.2.1 != y.2.1||mObj x != mObj y
 | _,_=>false)
def outM (l:List T3)(n:Nat):List T3:=(List.range n).filterMap λi=>if WaF l i then l[i]? else none
def WcM (w:Int):List T3:=outM (allM w) (allM w).length
def T3ok (x:T3):Prop:=8<=x.1/\x.1<=512/\1<=x.2.1/\x.2.1<=4
theorem Wh5 (s w:Int)(h1:8<=s)(h2:s<=512):T3ok (mCls s w):=⟨h1,h2,Wio s w 4⟩
theorem app3 {Q:Rg}{s:Sl}{l:List T3}{e1 e2:Nat}(ho:Own Q σ s 3 (v3s l))(hQ:∀b,σ.size<=b->Q b)(hl:l.length<=1000)(x:T3){K:Sl->Hp->Prop}(hK:∀s' σ',Ext Q σ σ'->Own Q σ' s' 3 (v3s (l++[x]))->K s' σ') :
 Nw (.cells #[.int .i64 x.1,.int .i64 x.2.1,.int .i64 x.2.2] e1 (0,0)) σ λn20 v3=>App s 3 24 e2 [.int .i64 0,.int .i64 0,.int .i64 0] ⟨some n20,1,1⟩ v3 K:=by
 have g:s.len=l.length:=by have:=ho.1;rw[V4]at this;omega
 refine nw (cs:=v3 x) λv p e a=>?_;refine(ho.keep0 e).app (ys:=v3 x) (λb a=>hQ b O) rfl rfl ?_ (by simp[v3,one1]) ?_ ?_ zBG λs' i _ d m _=>hK s' i ?_ ?_
 ·intro j u hu;rw[add_lit,zG,a.cell];exact hu
 ·simp only;have:(s.len+1)*24<=1001*24:=zAF O O;omega
 ·simp only;omega
 ·exact(Ext0.to e).trans (d.sub λb a=>((ho.keep0 e).blk_lt a).1)
 ·rw[Wb7];exact m
theorem WjY (w:Int)(h:w<2\/16<w){R:Sl->Int->Hp->Prop}(hR:R ⟨none,0,0⟩ 1 σ):W0.c w σ R:=by
 refine W0.o ?_;unfold W0.v;exact JnB.intro (ifD (λa=>ifT rfl hR) λa=>ifT (zU O) hR)
theorem Whc (w:Int)(hw1:2<=w)(hw2:w<=16){R:Sl->Int->Hp->Prop}(hR:∀s' σ',Ext0 σ σ'->Acts σ' s' (WcM w)->R s' 0 σ'):W0.c w σ R:=by
 refine W0.o ?_;unfold W0.v;refine JnB.intro (ifDF O (ifF (zi O) ?_));refine Km (a:=.s) (bb:=bN) (λ(all:Sl) (s:Int) u=>∃(n:Nat) (done:List T3),8<=s/\s<=768/\Ext0 σ u/\Own (λb=>σ.size<=b) u all 3 (v3s done)/\done++allF n s w=allF 64 8 w/\512<=s+8*(n:Int)/\(∀x∈done,T3ok x)/\done.length+n=64) (λ_ s _=>1000-s.toNat) ⟨64,[],O,O,Ext.refl _ _,Own.nil _ _ _,rfl,O,by simp,by simp⟩ ?_;rintro(all:Sl) (s:Int) u ⟨n,done,hs1,hs2,eu,ho,hdone,hn,hok,hlen⟩;refine ifD (λM=>?_) λN=>?_
 ·obtain⟨n,rfl⟩:∃m,n=m+1:=⟨n-1,O⟩;refine Wd0 s w O O hw1 hw2 λv2 e2=>?_;refine app3 (ho.keep0 e2) (λb E=>by have:=eu.1;have:=e2.1;omega) O (mCls s w) λall1 v4 e4 h4=>?_;have e04:Ext0 σ v4:=Ext.newT (eu.trans e2) e4 λb E=>.inr E;refine Wlv s w O O hw1 λd1 d2=>ar O O ⟨⟨n,done++[mCls s w],O,O,e04,h4,?_,O,λx B=>?_,by simp;omega⟩,O⟩
  ·rw[←hdone,zAA]
   congr 1
   conv=>rhs;rw[allF,zB M]
   rfl
  ·rcases zR.1 B with h1|h1
   ·exact hok x h1
   ·rw[zW]at h1;subst h1;exact Wh5 s w O O
 ·have V:allF n s w=[]:=by
   cases n with
   | zero=>rfl
   | succ n=>rw[allF,zA N]
  rw[V,zz]at hdone;refine Wd0 512 w O O hw1 hw2 λv6 e6=>?_;refine app3 (ho.keep0 e6) (λb E=>by have:=eu.1;have:=e6.1;omega) O (mCls 512 w) λe v8 e8 J=>?_;have e08:Ext0 σ v8:=Ext.newT (eu.trans e6) e8 λb E=>.inr E;rw[hdone]at J;have j:∀x∈allM w,T3ok x:=λx B=>by
   rcases zR.1 B with h1|h1
   ·rw[←hdone]at h1;exact hok x h1
   ·rw[zW]at h1;subst h1;exact Wh5 512 w O O
  have hml:(allM w).length<=65:=by unfold allM;rw[←hdone];simp;omega
  have J:Own (λb=>σ.size<=b) v8 e 3 (v3s (allM w)):=J;generalize hall:allM w=l at J j hml;have hmk:WcM w=outM l l.length:=by unfold WcM;rw[hall]
  have hl2:e.len=l.length:=by have:=J.1;rw[V4]at this;omega
  refine Km (a:=.s) (bb:=bN) (λ(out:Sl) (z:Int) u=>∃i:Nat,z=(i:Int)/\i<=l.length/\Ext0 v8 u/\Own (λb=>v8.size<=b) u out 3 (v3s (outM l i))/\(outM l i).length<=i) (λ_ z _=>l.length-z.toNat) ⟨0,rfl,O,Ext.refl _ _,Own.nil _ _ _,by simp[outM]⟩ ?_;rintro(out:Sl) (z:Int) u ⟨i,rfl,hi,eu8,hout,hol⟩;refine ifD (λM=>?_) λN=>?_
  ·have hi':i<l.length:=by omega
   have B:l[i]?=some l[i]:=gGe hi';generalize l[i]=x at B;have C:=j x (zE B);have g:outM l (i+1)=outM l i++(if WaF l i then[x]else[]):=by
    unfold outM;rw[zAC,zDZ]
    congr 1
    by_cases hk:WaF l i=true
    ·simp[hk,B]
    ·simp[hk]
   have hA:∀m,Ext0 u m->Acts m e l:=λm d=>Wfw (J.keep0 (eu8.trans d));refine WmT (λr u'=>Ext0 u u'/\r=WaF l i) (λr u' ⟨p,hr⟩=>?_) λJ3 F=>?_
   ·have W:=hout.keep0 p;cases hk:WaF l i with
    | true=>
     rw[hk]at hr g;refine ifT hr (U8 (hA u' p) B ?_);refine app3 W (λb E=>by have:=eu8.1;have:=p.1;omega) O x λout1 v12 e12 h12=>?_;refine arN (m:=i+1) O O ⟨⟨i+1,rfl,O,Ext.newT (eu8.trans p) e12 λb E=>.inr E,?_,?_⟩,O⟩
     ·rw[g];exact h12
     ·rw[g];simp;omega
    | false=>
     rw[hk]at hr g;refine ifF hr (arN (m:=i+1) O O ⟨⟨i+1,rfl,O,eu8.trans p,?_,?_⟩,O⟩)
     ·rw[g];simpa using W
     ·rw[g];simp;omega
   ·refine⟨λm=>Ext0 u m,Ext.refl _ _,ar O O ?_⟩;refine iff_ (λG=>F _ _ ⟨Ext.refl _ _,?_⟩) λhnl=>?_
    ·have:i=l.length-1:=by simp only[zX]at G;omega
     unfold WaF;rw[this];simp
    ·have hi2:i+1<l.length:=by simp only[zBC]at hnl;omega
     have hy:l[i+1]?=some l[i+1]:=gGe hi2;generalize l[i+1]=y at hy;have D:=j y (zE hy);have L:WaF l i=(x.2.1 != y.2.1||mObj x != mObj y):=by
      unfold WaF;rw[B,hy];have:(i==l.length-1)=false:=by simp only[zBC];omega
      rw[this];rfl
     have S:=λ(m:Hp) (d:Ext0 u m)=>(hA m d).2 i x.1 x.2.1 x.2.2 B;have hcy:=λ(m:Hp) (d:Ext0 u m)=>(hA m d).2 (i+1) y.1 y.2.1 y.2.2 hy;obtain⟨b,o,Y,_,_⟩:=S u (Ext.refl _ _);have X:∀m,Ext0 u m->cell m ⟨b,o+i*3,none⟩=some (.int .i64 x.1)/\cell m ⟨b,o+i*3+1,none⟩=some (.int .i64 x.2.1)/\cell m ⟨b,o+i*3+2,none⟩=some (.int .i64 x.2.2):=λm d=>by
      obtain⟨b',o',A,_,h⟩:=S m d;rw[Y]at A;cases A;exact h
     have Z:∀m,Ext0 u m->cell m ⟨b,o+(i+1)*3,none⟩=some (.int .i64 y.1)/\cell m ⟨b,o+(i+1)*3+1,none⟩=some (.int .i64 y.2.1)/\cell m ⟨b,o+(i+1)*3+2,none⟩=some (.int .i64 y.2.2):=λm d=>by
      obtain⟨b',o',A,_,h⟩:=hcy m d;rw[Y]at A;cases A;exact h
     have U:∀{K:Addr->Prop},K ⟨b,o+i*3,none⟩->Ix e.a e.len (i:Int) 3 K:=λhK=>by
      rw[Y];exact ix O O (by rw[add_lit,iTn];exact hK)
     have P:∀{K:Addr->Prop},K ⟨b,o+(i+1)*3,none⟩->Ix e.a e.len ((i+1:Nat):Int) 3 K:=λhK=>by
      rw[Y];exact ix O O (by rw[add_lit,iTn];exact hK)
     refine U ⟨x.2.1,λm d=>by rw[add_lit];exact(X m d).2.1,arN (m:=i+1) O O (P ⟨y.2.1,λm d=>by rw[add_lit];exact(Z m d).2.1,?_⟩)⟩;refine iff_ (λhp=>F _ _ ⟨Ext.refl _ _,by rw[L,hp];rfl⟩) λhp=>?_;refine U ⟨x.1,λm d=>by rw[add_lit];exact(X m d).1,⟨x.2.1,λm d=>by rw[add_lit];exact(X m d).2.1,⟨x.2.2,λm d=>by rw[add_lit];exact(X m d).2.2,?_⟩⟩⟩;refine arN (m:=i+1) O O (P ⟨y.1,λm d=>by rw[add_lit];exact(Z m d).1,⟨y.2.1,λm d=>by rw[add_lit];exact(Z m d).2.1,⟨y.2.2,λm d=>by rw[add_lit];exact(Z m d).2.2,?_⟩⟩⟩);refine Wi0 x C.1 C.2.1 C.2.2.1 C.2.2.2 λv13 H=>⟨H,Wi0 y D.1 D.2.1 D.2.2.1 D.2.2.2 λv14 Q=>⟨H.trans Q,F _ _ ⟨H.trans Q,by rw[L,hp];rfl⟩⟩⟩
  ·have hil:i=l.length:=by omega
   subst hil;refine hR out u (e08.trans eu8) ?_;rw[hmk];exact Wfw hout
theorem Gg:∀w:Nat,2<=w->w<=16->Qi (WcM (w:Int))=true:=by
 have h:((List.range 17).all λw=>decide (w<2)||Qi (WcM (w:Int)))=true:=by decide +kernel
 intro w h1 h2;have:=zAB.1 h w (zV.2 O);simp only[zBM,zS]at this;exact this.resolve_left O
end Go.Ar
namespace Go.Proofs
open Go.Shelf
def Tryz.sortFL_ren:Go.Shelf.Ren:=⟨fun|6=>261|15=>129|14=>284|28=>167|29=>168|20=>303|21=>304|22=>305|23=>306|24=>307|25=>308|26=>309|27=>310|46=>316|47=>206|48=>207|49=>317|50=>318|57=>320|n=>n,fun|22=>124|24=>130|25=>346|3=>3|39=>199|0=>0|53=>255|55=>257|4=>4|46=>248|45=>247|50=>252|5=>5|9=>9|66=>299|70=>105|76=>335|77=>336|n=>n,fun|n=>n⟩
theorem Tryz.sortFL:Go.Proofs.SlLaysF0.n6 Tryz.prog Tryz.sortFL_ren:={
 mixed:=by kernel_rfl
 f6:=⟨Tryz.f261.name,by decide,Tryz.func261.trans (congrArg some (by kernel_rfl))⟩
 f14:=⟨Tryz.f284.name,by decide,Tryz.func284.trans (congrArg some (by kernel_rfl))⟩
 f15:=Tryz.func129.trans (congrArg some (by kernel_rfl))
 f20:=⟨Tryz.f303.name,by decide,Tryz.func303.trans (congrArg some (by kernel_rfl))⟩
 f21:=⟨Tryz.f304.name,by decide,Tryz.func304.trans (congrArg some (by kernel_rfl))⟩
 f22:=⟨Tryz.f305.name,by decide,Tryz.func305.trans (congrArg some (by kernel_rfl))⟩
 f23:=⟨Tryz.f306.name,by decide,Tryz.func306.trans (congrArg some (by kernel_rfl))⟩
 f24:=⟨Tryz.f307.name,by decide,Tryz.func307.trans (congrArg some (by kernel_rfl))⟩
 f25:=⟨Tryz.f308.name,by decide,Tryz.func308.trans (congrArg some (by kernel_rfl))⟩
 f26:=⟨Tryz.f309.name,by decide,Tryz.func309.trans (congrArg some (by kernel_rfl))⟩
 f27:=⟨Tryz.f310.name,by decide,Tryz.func310.trans (congrArg some (by kernel_rfl))⟩
 f28:=Tryz.func167.trans (congrArg some (by kernel_rfl))
 f29:=Tryz.func168.trans (congrArg some (by kernel_rfl))
 f46:=⟨Tryz.f316.name,by decide,Tryz.func316.trans (congrArg some (by kernel_rfl))⟩
 f47:=Tryz.func206.trans (congrArg some (by kernel_rfl))
 f48:=Tryz.func207.trans (congrArg some (by kernel_rfl))
 f49:=⟨Tryz.f317.name,by decide,Tryz.func317.trans (congrArg some (by kernel_rfl))⟩
 f50:=⟨Tryz.f318.name,by decide,Tryz.func318.trans (congrArg some (by kernel_rfl))⟩
 f57:=⟨Tryz.f320.name,by decide,Tryz.func320.trans (congrArg some (by kernel_rfl))⟩
 t0:=Tryz.underlying0
 a0:=Tryz.isAgg0
 z0:=Tryz.sizeOf0
 v0:=Tryz.zeroValue0
 t3:=Tryz.underlying3
 a3:=Tryz.isAgg3
 z3:=Tryz.sizeOf3
 v3:=Tryz.zeroValue3
 t4:=Tryz.underlying4
 a4:=Tryz.isAgg4
 z4:=Tryz.sizeOf4
 v4:=Tryz.zeroValue4
 t5:=Tryz.underlying5
 a5:=Tryz.isAgg5
 z5:=Tryz.sizeOf5
 v5:=Tryz.zeroValue5
 t9:=Tryz.underlying9
 a9:=Tryz.isAgg9
 z9:=Tryz.sizeOf9
 v9:=Tryz.zeroValue9
 t22:=Tryz.underlying124
 a22:=Tryz.isAgg124
 z22:=Tryz.sizeOf124
 v22:=Tryz.zeroValue124
 t25:=Tryz.underlying346
 a25:=Tryz.isAgg346
 z25:=Tryz.sizeOf346
 v25:=Tryz.zeroValue346
 t39:=Tryz.underlying199
 a39:=Tryz.isAgg199
 z39:=Tryz.sizeOf199
 v39:=Tryz.zeroValue199
 t45:=Tryz.underlying247
 a45:=Tryz.isAgg247
 z45:=Tryz.sizeOf247
 v45:=Tryz.zeroValue247
 t46:=Tryz.underlying248
 a46:=Tryz.isAgg248
 z46:=Tryz.sizeOf248
 v46:=Tryz.zeroValue248
 t50:=Tryz.underlying252
 a50:=Tryz.isAgg252
 z50:=Tryz.sizeOf252
 v50:=Tryz.zeroValue252
 t53:=Tryz.underlying255
 a53:=Tryz.isAgg255
 z53:=Tryz.sizeOf255
 v53:=Tryz.zeroValue255
 t55:=Tryz.underlying257
 a55:=Tryz.isAgg257
 z55:=Tryz.sizeOf257
 v55:=Tryz.zeroValue257
 t66:=Tryz.underlying299
 a66:=Tryz.isAgg299
 z66:=Tryz.sizeOf299
 v66:=Tryz.zeroValue299
 t70:=Tryz.underlying105
 a70:=Tryz.isAgg105
 z70:=Tryz.sizeOf105
 v70:=Tryz.zeroValue105
 t76:=Tryz.underlying335
 a76:=Tryz.isAgg335
 z76:=Tryz.sizeOf335
 v76:=Tryz.zeroValue335
 t77:=Tryz.underlying336
 a77:=Tryz.isAgg336
 z77:=Tryz.sizeOf336
 v77:=Tryz.zeroValue336}
end Go.Proofs
namespace Go.Ar
open Go Go.Vc Go.Proofs Go.RowKit Go.Sort Go.Shelf Go.Lib
abbrev BtK:=Fin 64×Sl
instance:Inhabited BtK:=⟨(0,⟨none,0,0⟩)⟩
def encB (x:BtK):List Value:=[.int .i64 (x.1.val:Int),.slice x.2.a x.2.len x.2.cap]
def cfB (x y:BtK):Int:=(x.1.val:Int)-(y.1.val:Int)
theorem cmpB (x y:BtK)(W:World):Calls Tryz.prog 262 #[.agg #[.int .i64 (x.1.val:Int),.slice x.2.a x.2.len x.2.cap],.agg #[.int .i64 (y.1.val:Int),.slice y.2.a y.2.len y.2.cap]] W λe w'=>e=.returned (.int .i64 (cfB x y))/\∃q os',w'=grow (W.drewN q) os':=by
 have d:IntKind.i64.wrap ((x.1.val:Int)-(y.1.val:Int))=cfB x y:=by
  have b:=x.1.isLt;have g:=y.1.isLt;unfold cfB;exact UH O O
 go_enter Tryz.func262,Tryz.ntmps262
 go_wp2
 go_ret
 exact⟨rfl,0,_,by rw[alloc_eq_grow,alloc_eq_grow,grow_grow];rfl⟩
theorem swoB:SWO (ltOf cfB) where
 irrefl x:=by simp[ltOf,cfB]
 trans x y z a h2:=by
  have a:=zBZ a;have h2:=zBZ h2;unfold cfB at a h2;exact zU (by unfold cfB;omega)
 ntrans x y z a h2:=by
  have a:=zCZ a;have h2:=zCZ h2;unfold cfB at a h2;exact zi (by unfold cfB;omega)
def unK (x:BtK):Nat×Sl:=(x.1.val,x.2)
theorem flB (l:List BtK)(j:Nat)(hj:j<l.length*2):(btsV (l.map unK))[j]?=some (flatK encB 2 l.toArray)[j]! := by
 rw[get_flatK _ _ _ _ (by simpa using hj)];have a:j/2<l.length:=by omega
 have b:l.toArray[j/2]! = l[j/2]:=by rw[getElem!_pos _ _ (by simpa using a)];simp
 have e:(l.map unK)[j/2]?=some (unK l[j/2]):=by simp[a]
 have:=Wk2 e (d:=j%2) O;rw[show 2*(j/2)+j%2=j by omega]at this;rw[this,b];have hd:j%2=0\/j%2=1:=by omega
 rcases hd with h|h<;>rw[h]<;>rfl
theorem Wmj:HP:=by
 intro σ F s xs hrow hk hlen R hR;rintro w rfl;have hsl:s.len=xs.length:=by have:=hrow.1;rw[Ky]at this;omega
 rcases hrow.2 with⟨h0,hc0⟩|⟨b,cs,hF,ha,hb,hle,hcl,ht⟩
 ·have N:xs=[]:=zFT.1 O;have:=AnyF.slices_SortFunc_none Tryz.sortFL s.a s.cap (.func (.func 262) #[] #[]) w;show Calls _ _ #[.slice s.a s.len s.cap,.func (.func 262) #[] #[]] w _;rw[h0];refine this.mono ?_;rintro e U ⟨rfl,rfl⟩;subst N;exact⟨.refl _,[],rfl,hR [] _ (.refl _) List.Pairwise.nil (Ext.refl _ _) hrow⟩
 ·have E:∀x∈xs,x.1<64:=hk
  let toK:Nat×Sl->BtK:=λx=>(Fin.ofNat 64 x.1,x.2)
  have r:(xs.map toK).map unK=xs:=by
   rw[zt]
   conv=>rhs;rw[←zEK xs]
   apply zAH;intro x hx;simp only[Function.comp,toK,unK,Fin.ofNat,id];rw[zDV (E x hx)]
  have K:(xs.map toK).length=xs.length:=by simp
  generalize xs.map toK=l at r K;have A:=hb.lt;have X:HoldsK encB 2 w b 0 l.toArray:=by
   intro j hj;simp only[size_flatK,zFU]at hj;have Z:Vc.cell w.heap ⟨b,0+j,none⟩=some (flatK encB 2 l.toArray)[j]! := by
    rw[hb.cell,zG,←flB l j hj,r];rw[←ht,zY,zB (by rw[Ky];omega)]
   exact⟨Z,hb.frz⟩
  have eg:∀args w,(callFunc 262 args).run Tryz.prog w=.ok (.enter 262 args) w:=enters_of Tryz.func262 (by kernel_rfl) rfl;have B:∀w,(isAgg (Tryz.sortFL_ren.t 24)).run Tryz.prog w=.ok true w:=λw=>by
   have h:=KF (P:=Tryz.prog) (t:=Tryz.sortFL_ren.t 24) (d:=(Tryz.prog.underlying (Tryz.sortFL_ren.t 24)).getD .bool) (by kernel_rfl) w
   rwa [show Uj ((Tryz.prog.underlying (Tryz.sortFL_ren.t 24)).getD .bool)=true by kernel_rfl]at h
  have H:∀w,(Go.sizeOf (Tryz.sortFL_ren.t 24)).run Tryz.prog w=.ok 2 w:=λw=>by
   have h:=QQ (P:=Tryz.prog) (t:=Tryz.sortFL_ren.t 24) (by kernel_rfl) w
   rwa [show Tryz.prog.cellsOf (Tryz.sortFL_ren.t 24)=2 by kernel_rfl]at h
  have C:=AnyQ.slices_SortFunc Tryz.sortFL 2 B H encB (λ_=>rfl) (λx v Q=>by simp only[encB,zQ,List.not_mem_nil,or_false]at Q;rcases Q with rfl|rfl<;>rfl) cfB swoB 262 #[] b 0 s.cap l.toArray w eg (λ_ _ _ _ x y=>cmpB x y _) X A (by simp only[zFU];omega)
  show Calls _ _ #[.slice s.a s.len s.cap,.func (.func 262) #[] #[]] w _;rw[ha,show s.len=l.toArray.size by simp only[zFU];omega];refine C.mono ?_;rintro e U ⟨rfl,d',n,os,S,G,rfl⟩;have g:d'.size=l.length:=by simpa using S.1
  have u:d'.toList.Perm l:=by
   have L:=S.2.2;rw[show l.toArray.size=d'.size by simp[g]]at L;have e1:(d'.extract 0 d'.size)=d':=by simp
   have W:(l.toArray.extract 0 d'.size)=l.toArray:=by rw[g];simp
   rw[e1,W]at L;simpa using L
  obtain⟨Y,J⟩:=hb;have m:(sortWorldK encB 2 w b 0 n d' os).heap=(w.heap.modify b (onCells (putCells id 0 (flatK encB 2 d'))))++os:=rfl;have p:(w.heap.modify b (onCells (putCells id 0 (flatK encB 2 d')))).size=w.heap.size:=by simp
  refine⟨⟨rfl,rfl,rfl,by rw[m,Array.size_append,p];omega⟩,[],rfl,?_⟩;rw[m];have z:Ext F w.heap ((w.heap.modify b (onCells (putCells id 0 (flatK encB 2 d'))))++os):=by
   refine⟨by rw[Array.size_append,p];omega,λq V hf=>?_⟩;rw[zGF (by rw[p];exact V),zFK,zA λ(e:b=q)=>hf (by rw[←e];exact hF)]
  refine hR (d'.toList.map unK) _ ?_ ?_ z ⟨?_,.inr ⟨b,(putCells id 0 (flatK encB 2 d') cs.toArray).toList,hF,ha,⟨Y,?_⟩,hle,?_,?_⟩⟩
  ·rw[←r];exact u.map _
  ·rw[zCN];rw[zAE];intro i j hi hj hij;have D:=G i j O hij (by simp only[zEN]at hj;simp only[zFU];omega);rw[getElem!_pos d' i (by simpa using hi),getElem!_pos d' j (by simpa using hj)]at D;have D:=zCZ D;unfold cfB at D;simp only[unK,Array.getElem_toList];omega
  ·rw[Ky,za,zEN,g];omega
  ·rw[zGF (by rw[p];exact A),zFK,zB rfl,J];simp[onCells]
  ·simp[putCells,hcl]
  ·rw[Ky,za,zEN,g];apply zw;intro j;rw[zY];by_cases hj:j<l.length*2
   ·rw[zB hj,flB d'.toList j (by simpa[g]using hj)];have M:j<cs.length:=by
     have:l.length*2<=s.cap*2:=zAK _ O;omega
    simp only[putCells,zFB,Array.getElem?_mapIdx,List.getElem?_toArray,gGe M,zf];rw[zB ⟨O,by rw[size_flatK,g];omega⟩];simp
   ·rw[zA hj,zZ (by rw[Ky,za,zEN,g];omega)]
end Go.Ar
namespace Go.Proofs
open Go.Vc
set_option maxRecDepth 100000
def XF.h:Hn:=.q .o1 (.q .o4 .l)
def XF.v (a:Hp)(b:Option Addr->Hp->Prop):Prop:=Wu.c 8 64 1 1 1024 2 a λc d=>b c d
theorem XF.o {a b}(c:XF.v a b):XF.c a b:=Wa Tryz.func29 (x:=XF.h) (R0 c)
def X9.h:Hn:=.q .o1 (.q .o5 .l)
def X9.v (a:Sl)(b:Int)(c:Hp)(d:aO):Prop:=d (decide (((a.len:Nat):Int)>b)) c
theorem X9.o {a b c d}(e:X9.v a b c d):X9.c a b c d:=Wa Tryz.func34 (x:=X9.h) (R0 e)
def Wu.h:Hn:=.q .o2 (.q .o8 (.q .o9 (.q (.q .o2 .aK) .aL)))
def Wu.v (a b c d e f:Int)(g:Hp)(h:Option Addr->Hp->Prop):Prop:=aV #[.I a,.I b,.I c,.I d,.I e,.I f] 65 g λi j=>aQ i 0 j λk=>W0.c k j λl m n=>bM ((i.add 1).add 0) n λo=>bM ((i.add 1).add 1) n λp=>bM ((i.add 1).add 2) n λq=>bM ((i.add 1).add 3) n λr=>bM ((i.add 1).add 4) n λs=>Ku.c l o p q r s n λt u v=>If (u != 0) (h none v) (h t v)
theorem Wu.o {a b c d e f g h}(i:Wu.v a b c d e f g h):Wu.c a b c d e f g h:=Wa Tryz.func63 (x:=Wu.h) (R0 i)
def WP.h:Hn:=.q .o2 (.q .o5 .l)
def WP.v (a b c d e f:Int)(g:Hp)(h:aO):Prop:=aV #[.I a,.I b,.I c,.I d,.I e,.I f] 65 g λi j=>bM ((i.add 1).add 0) j λk=>h (decide (k>128)) j
theorem WP.o {a b c d e f g h}(i:WP.v a b c d e f g h):WP.c a b c d e f g h:=Wa Tryz.func64 (x:=WP.h) (R0 i)
def Yl.h:Hn:=.q .o2 (.q (.q (.reg (.seq [.op,.op,.op,.op,.grd false 3 (RI.ops 3)])) (.c (.q .o3 .l) .l)) (.q (.oq 12) .l))
def Yl.v (a:Sl)(b c d e f g h:Int)(i:ByteArray)(j:Hp)(k:aN):Prop:=aV #[.I b,.I c,.I d,.I e,.I f,.I g,.I h,.string i] 87 j λl m=>aQ l 4 m λn=>JnB (λo p=>If o (aQ l 5 p λq=>k q p) (aQ l 4 p λr=>Nz ((a.len:Nat):Int) <| Ix a.a a.len (r.tmod ((a.len:Nat):Int)) 1 λs=>bM s p λt=>aQ l 5 p λu=>bL (t+u) λv=>k v p)) λw=>If (n<0) (w true m) (w (((a.len:Nat):Int)==0) m)
theorem Yl.o {a b c d e f g h i j k}(l:Yl.v a b c d e f g h i j k):Yl.c a b c d e f g h i j k:=Wa Tryz.func69 (x:=Yl.h) (R0 l)
def Za.h:Hn:=.q .o4 (.q .o4 (.q (.q .o2 (.k (.q .o2 (.c (.q (.o 13) (.q .o6 .l)) (.q .o2 (.c (.q .o8 .l) (.q .o2 (.c (.q .o7 .l) (.q .o2 (.c (.q .o8 .l) (.q .o2 (.c (.q .o8 (.q .o5 .l)) (.q .o2 (.c (.q (.o 12) .l) (.q .o2 (.c (.q .o9 .l) (.q .o2 (.c (.q (.o 12) (.q (.q (.reg (.seq [.op,.op,.op,.grd false 2 [.op,.op]])) (.c (.q .o4 .l) .l)) (.q (.oq 10) .l))) (.q .o2 (.c (.q .o9 (.q .o5 .l)) (.q .o2 (.c (.q .o5 .l) (.q .o2 (.c .o2 .l)))))))))))))))))))))))) (.q .o3 .l)))
def Za.v (a:R2)(b:Sl)(c d e f g h i:Int)(j:ByteArray)(k:Hp)(l:Int->Int->Int->Hp->Prop):Prop:=aV #[.I c,.I d,.I e,.I f,.I g,.I h,.I i,.string j] 87 k λm n=>aQ m 0 n λo=>aQ m 1 n λp=>aQ m 2 n λq=>aQ m 3 n λr=>aQ m 4 n λs=>aQ m 5 n λt=>aQ m 6 n λu=>bC m 7 n λv=>Yl.c b o p q r s t u v n λw x=>aQ m 0 x λy=>If (y==0) (aQ m 1 x λz=>aQ m 2 x λaa=>aQ m 3 x λab=>Yh.c a z aa ab x λac ad ae=>l ac ad ac ae) (If (y==1) (aQ m 1 x λaf=>Zn.c a af w x λag ah=>l 0 ag 0 ah) (If (y==2) (aQ m 1 x λai=>Zj.c a ai x λaj ak=>l 0 aj 0 ak) (If (y==3) (aQ m 6 x λal=>Zs.c a w al x λam an=>l 0 am 0 an) (If (y==4) (Wbe.c a w x λao ap aq=>l ao ap 0 aq) (If (y==5) (aQ m 1 x λar=>aQ m 2 x λau=>aQ m 3 x λav=>Yb.c a ar 0 au av 0 x λaw ax=>l 0 aw 0 ax) (If (y==6) (aQ m 1 x λay=>Yb.c a ay 1 0 0 w x λaz a0=>l 0 az 0 a0) (If (y==7) (aQ m 1 x λa1=>Zb.c a a1 x λa2 a3 a4 a5 a6=>aV #[.I 0,.I 0] 156 a6 λa7 a8=>aR a7 0 (.I a3) a8 λa9=>aR a7 1 (.I a4) a9 λba=>JnB (λbb bc=>If bb (l 0 a5 0 bc) (aQ a7 0 bc λbd=>aQ a7 1 bc λbe=>bL (100+be) λbf=>aQ a7 0 bc λbg=>l bd bf bg bc)) λbh=>If (a5 != 0) (bh true ba) (bh (!a2) ba)) (If (y==8) (aQ m 2 x λbi=>
 YD.c a bi x λbj bk bl=>l bj bk 0 bl) (If (y==9) (Zy.c a x λbm bn=>l bm 0 0 bn) (If (y==10) (Zz.c a x λbo=>l 0 0 0 bo) (l 0 0 0 x)))))))))))
theorem Za.o {a b c d e f g h i j k l}(m:Za.v a b c d e f g h i j k l):Za.c a b c d e f g h i j k l:=Wa Tryz.func70 (x:=Za.h) (R0 m)
end Go.Proofs
namespace Go.Ar
open Go Go.Vc Go.Proofs
variable {σ w w':Hp}{F P Q:Rg}{L:LayH}{H H':Hw}{held:List Pc}{s0:Sp}{t n:Nat}{g:Th}
structure Deed where
 kd:Int
 th:Int
 a:Int
 b:Int
 of:Int
 pl:Int
 va:Int
 s:ByteArray
def Wbg (d:Deed):List Value:=[.int .i64 d.kd,.int .i64 d.th,.int .i64 d.a,.int .i64 d.b,.int .i64 d.of,.int .i64 d.pl,.int .i64 d.va,.string d.s]
def I64 (x:Int):Prop:=-9223372036854775808<=x/\x<=9223372036854775807
structure DeedI (d:Deed):Prop where
 a:I64 d.a
 b:I64 d.b
 pl:I64 d.pl
 va:I64 d.va
structure Deeds (σ:Hp) (sl:Sl) (ds:List Deed):Prop where
 len:sl.len=ds.length
 at_:∀(i:Nat) (d:Deed),ds[i]?=some d->∃b o,sl.a=some ⟨b,o,none⟩/\b<σ.size/\∀(j:Nat) v,(Wbg d)[j]?=some v->cell σ ⟨b,o+i*8+j,none⟩=some v
 i:∀d∈ds,DeedI d
 big:ds.length<=9223372036854775807
theorem Deeds.keep0 {sl:Sl}{ds:List Deed}(h:Deeds σ sl ds)(e:Ext0 σ w):Deeds w sl ds:=⟨h.len,λi d p=>by
 obtain⟨b,o,r,a,m⟩:=h.at_ i d p;exact⟨b,o,r,by have:=e.1;omega,λj v g=>by rw[QU e a id];exact m j v g⟩,h.i,h.big⟩
theorem Deeds.rd {sl:Sl}{ds:List Deed}(h:Deeds σ sl ds)(e:Ext0 σ w){i:Nat}{d:Deed}(hx:ds[i]?=some d){K:Addr->Prop}(hK:∀b o,(∀w',Ext0 σ w'->∀(j:Nat) v,(Wbg d)[j]?=some v->cell w' ⟨b,o+j,none⟩=some v)->K ⟨b,o,none⟩):Ix sl.a sl.len (i:Int) 8 K:=by
 obtain⟨b,o,u,p,s⟩:=h.at_ i d hx;have x:=(gSi.1 hx).1;have g:=h.len;rw[u];refine ix O O ?_;rw[add_lit,iTn];exact hK b _ λw' m j v r=>by rw[QU m p id];exact s j v r
theorem ldT0 {b o i:Nat}{h:Hp}{x:ByteArray}{K:ByteArray->Prop}(hc:cell h ⟨b,o+i,none⟩=some (.string x))(hK:K x):LdT (Addr.add ⟨b,o,none⟩ i) h K:=⟨x,by rw[add_lit];exact hc,hK⟩
theorem _root_.Go.Vc.Blk.rT {b o i:Nat}{cs:List Value}(hb:Blk σ b cs){x:ByteArray}{K:ByteArray->Prop}(hc:cs[o+i]?=some (.string x))(hK:K x):LdT (Addr.add ⟨b,o,none⟩ i) σ K:=⟨x,by rw[add_lit,hb.cell];exact hc,hK⟩
def atV (ad:List Int)(d:Deed):Int:=if d.of<0\/ad=[]then d.pl else IntKind.i64.wrap (ad.getD (d.of.toNat%ad.length) 0+d.pl)
theorem Wn1 {ad:List Int}{d:Deed}(h:DeedI d):I64 (atV ad d):=by
 unfold atV;split
 ·exact h.pl
 ·exact WlF _
theorem WoE {addrs:Sl}{ad:List Int}(hs:SlR addrs 1 (Wv ad) σ F)(d:Deed){R:aN}(hR:∀σ',Ext0 σ σ'->R (atV ad d) σ'):Yl.c addrs d.kd d.th d.a d.b d.of d.pl d.va d.s σ R:=by
 refine Yl.o ?_;unfold Yl.v;have y:addrs.len=ad.length:=by have:=hs.1;simp[Wv]at this;omega
 refine nw (cs:=Wbg d) λv D e j=>j.rI rfl (UW (λr w=>w=v/\r=decide (d.of<0\/ad=[])) (λr w ⟨B,x⟩=>?_) λJ u=>ifD (λp=>u _ _ ⟨rfl,by rw[zU (.inl p)]⟩) λp=>u _ _ ⟨rfl,?_⟩)
 ·subst B;have g:=hR w e;by_cases hc:d.of<0\/ad=[]
  ·refine ifT (by rw[x];exact zU hc) (j.rI rfl ?_);unfold atV at g;rw[zB hc]at g;exact g
  ·have i:0<ad.length:=zCG.2 λh=>hc (.inr h);refine ifF (by rw[x];exact zi hc) (j.rI rfl (nz O ?_));have A:0<=d.of:=by omega
   have C:d.of.tmod (addrs.len:Int)=((d.of.toNat%ad.length:Nat):Int):=by
    rw[Q8 A,y,Int.natCast_emod,Int.toNat_of_nonneg A]
   rw[C];have m:d.of.toNat%ad.length<ad.length:=zDP _ i;have z:ad[d.of.toNat%ad.length]?=some ad[d.of.toNat%ad.length]:=gGe m;refine(SlR.loc _ _ _ |>.keep0 (aH.cut hs) e).ixI z (j.rI rfl (arW ?_));unfold atV at g;rw[zA hc,zL,z]at g;exact g
 ·rw[y];rw[zBD];simp only[zX,zS];constructor
  ·intro h;exact .inr (zFT.1 O)
  ·rintro(h|h)
   ·exact(p h).elim
   ·rw[h];rfl
theorem Wnl {l:Sl}{most:Int}{R:aO}(hR:R (decide ((l.len:Int)>most)) σ):X9.c l most σ R:=by
 refine X9.o ?_;unfold X9.v;exact hR
theorem WmQ {xs:List (Int×Int×Int)}(h:Qi xs=true):(xs.map ZV).map clsT=xs:=by
 rw[zt]
 conv=>rhs;rw[←zEK xs]
 apply zAH;intro t ht;obtain⟨i,a⟩:=zN ht;have:=((Qr xs).1 h).2.2.1 i t a;obtain⟨c,_,d,b,g,e⟩:=G0 this;simp only[Function.comp,id];rw[show ZV t=c from d];unfold clsT;rw[←b,←g,←e]
theorem Won {xs:List (Int×Int×Int)}(h:Qi xs=true):(xs.map ZV).length<=40/\∀c∈xs.map ZV,c.ok:=by
 refine⟨by have:=((Qr xs).1 h).2.1;simpa using this,λc g=>?_⟩;obtain⟨t,e,rfl⟩:=zD.1 g;obtain⟨i,b⟩:=zN e;have:=((Qr xs).1 h).2.2.1 i t b;obtain⟨c,a,d,_⟩:=G0 this;rw[show ZV t=c from d];exact a
structure NewH (H:Hw) (pages:Int):Prop where
 hi:HI H [] (Vp H.cf.pages)
 cf:CfOk H
 pg:(H.cf.pages:Int)=pages
 live:H.live=[]
 ph:∀g∈H.ths,g.ph=none
theorem Wiw {xs:List (Int×Int×Int)}{p a t b r:Int}(h:Qi xs=true)(hc:WdV p a t b r=true):NewH (Ue (xs.map ZV) ⟨p.toNat,a.toNat,t.toNat,b.toNat,r.toNat⟩) p:=by
 obtain⟨⟨y,x,j⟩,⟨s,u⟩,⟨m,w⟩,_⟩:=(Wc3 p a t b r).1 hc;obtain⟨e,d⟩:=Won h;refine⟨Wow (cf:=⟨p.toNat,a.toNat,t.toNat,b.toNat,r.toNat⟩) aC aC aC aC e d,⟨by simp only[Ue];omega,by simp[Ue],?_⟩,by simp only[Ue];omega,rfl,λg i=>by rw[zGP i]⟩;show Qi ((xs.map ZV).map clsT)=true;rw[WmQ h];exact h
theorem Woj (g:Gl σ)(gd:Gd σ)(b b1 b2 b3 b4 b5:Int){R:Option Addr->Hp->Prop}(h0:∀σ',Ext0 σ σ'->R none σ')
 (h1:∀σ' L N H,Ext0 σ σ'->σ.size<=N->N<=σ'.size->HH σ' (λb=>N<=b) L H->NewH H b1->R (some ⟨L.p,0,none⟩) σ'):Wu.c b b1 b2 b3 b4 b5 σ R:=by
 refine Wu.o ?_;unfold Wu.v;refine nw (cs:=[.int .i64 b,.int .i64 b1,.int .i64 b2,.int .i64 b3,.int .i64 b4,.int .i64 b5]) λv G e j=>j.rI rfl ?_;by_cases hw:2<=b/\b<=16
 ·refine Whc b hw.1 hw.2 λs D C A=>?_;have a:=C.blk j id;have d:=e.trans C;have m:Qi (WcM b)=true:=by
   have:=Gg b.toNat O O;rw[show((b.toNat:Nat):Int)=b by omega]at this;exact this
  refine a.rI2 rfl (a.rI2 rfl (a.rI2 rfl (a.rI2 rfl (a.rI2 rfl ?_))));refine Wd9 A (g.keep0 d) (gd.keep0 d) b1 b2 b3 b4 b5 (λw=>by rw[m]at w;cases w) (λ_ B u r=>?_) λ_ B u L r E=>?_
  ·exact ifT rfl (h0 u (d.trans r))
  ·exact ifF rfl (h1 u L D.size _ (d.trans r) d.1 r.1 E (Wiw m B))
 ·refine WjY b O (j.rI2 rfl (j.rI2 rfl (j.rI2 rfl (j.rI2 rfl (j.rI2 rfl ?_)))));have A:Acts v ⟨none,0,0⟩ []:=⟨rfl,λi x y z F=>by simp at F⟩;refine Wd9 A (g.keep0 e) (gd.keep0 e) b1 b2 b3 b4 b5 (λ_ u r=>ifT rfl (h0 u (e.trans r))) (λm=>?_) λm=>?_
  ·exact absurd m aB
  ·exact absurd m aB
def Safe (H:Hw)(d:Deed)(x:Int)(e:Int×Bk):Prop:=(∀j,phAt H j≠some (.find e.1))/\¬((d.kd=3\/d.kd=1\/d.kd=6)/\e.1<=x/\x<e.1+e.2.2.1)
structure DoE (H:Hw) (d:Deed) (x:Int) (H':Hw):Prop where
 hi:∃held s0,HI H' held s0
 kp:Qc H' H
 fx:∀e∈H.live,Safe H d x e->e∈H'.live/\(∀w:Nat,e.1<=((8*w:Nat):Int)->((8*w:Nat):Int)<e.1+e.2.2.1->H'.sp.wd w=H.sp.wd w)/\∀j,phAt H' j≠some (.find e.1)
theorem DoE.op (h:HI H held s0){d:Deed}{x:Int}(o:OpOk H H')(hl:∀e∈H.live,Safe H d x e->e∈H'.live):DoE H d x H':=
 ⟨o.hi,o.kp,λe a b=>⟨hl e a b,h.kl o.ks e a,λj=>by rw[o.ph];exact b.1 j⟩⟩
theorem DoE.ar {d:Deed}{x:Int}(o:ArOk H H'):DoE H d x H':=
 ⟨o.hi,o.kp,λe a b=>⟨by rw[o.live];exact a,o.kl e a,λj=>by unfold phAt;rw[o.ths];exact b.1 j⟩⟩
theorem HI.size8 (h:HI H held s0){e:Int×Bk}(he:e∈H.live):8<=e.2.2.1/\0<=e.1/\e.1%8=0/\e.2.2.1%8=0/\e.1+e.2.2.1<=270000:=by
 obtain⟨_,p,g,G,F,K,D,_⟩:=h.lv e he;have C:=h.wi'.size_pos g;have J:=h.wi'.addr_lt g;obtain⟨A,w,hd⟩:=h.wi'.hf p g;have B:p.addr%8=0:=by
  rcases hd with⟨_,_,r,hr,c2,c3⟩|⟨j,c,c1,c2,c3,c4,_⟩
  ·omega
  ·obtain⟨a,y,b,u⟩:=c4;have:a=c:=Option.some.inj (b.1.symm.trans c2);subst this;have m:=(h.wi'.ga _ A w).cen j a y b;obtain⟨l,s,i,E,z,e,_⟩:=(Uc m).1 u;have d:=m.ok;unfold Cls.ok at d;unfold at_ at e;have x:a.size=8*(a.size/8):=by omega
   have:i*a.size=8*(i*(a.size/8)):=by rw[Nat.mul_left_comm,←x]
   omega
 omega
theorem DoE.free (h:HI H held s0){d:Deed}{x thread e:Int}(hd:d.kd=1)(o:OpOk H H')(hf:FreE H thread x H' e):DoE H d x H':=by
 refine DoE.op h o λi a g=>?_;have m:=h.size8 a;rcases hf with⟨_,h2,_⟩|⟨_,_,_,h4⟩|⟨_,b,_,_,h4⟩
 ·rw[h2];exact a
 ·rw[h4];exact a
 ·rw[h4];refine Wcv.2 ⟨a,λj=>g.2 ⟨.inr (.inl hd),O,O⟩⟩
end Go.Ar
namespace Go.Ar
open Go Go.Vc Go.Proofs
variable {σ w w':Hp}{F P Q X:Rg}{L:LayH}{H H':Hw}{held:List Pc}{s0:Sp}{t n:Nat}{g:Th}
structure PlayOk (σ0 σ:Hp) (L:LayH) (H:Hw) (held:List Pc) (s0:Sp) (P Q:Rg) (addrs:Sl) (ad:List Int):Prop where
 e:Ext0 σ0 σ
 h:HH σ P L H
 hi:HI H held s0
 cf:CfOk H
 pg:H.cf.pages<=128
 pP:∀b,P b->σ0.size<=b/\b<σ.size
 pQ:∀b,Q b->σ0.size<=b/\b<σ.size/\¬P b
 row:RowR addrs 1 (Wv ad) σ Q
 al:ad.length<=60
 g0:Off (λb=>σ0.size<=b)/\¬σ0.size<=1
variable {σ0:Hp}{addrs:Sl}{ad:List Int}
theorem PlayOk.out (p:PlayOk σ0 σ L H held s0 P Q addrs ad){T:Rg}(e:Ext T σ w)(hT:∀b,b<σ.size->T b->¬P b/\¬Q b/\σ0.size<=b):PlayOk σ0 w L H held s0 P Q addrs ad:=by
 have r:=e.1;have g:Ext (λb=>T b/\b<σ.size) σ w:=⟨e.1,λb a i=>e.2 b a λd=>i ⟨d,a⟩⟩;refine⟨Ext.newT p.e g λb a=>.inr (hT b a.2 a.1).2.2,p.h.keep g (λb a m d=>(hT b a d.1).1 m) (λb a=>?_) (λa=>?_),p.hi,p.cf,p.pg,λb a=>⟨(p.pP b a).1,by have:=(p.pP b a).2;omega⟩,λb a=>⟨(p.pQ b a).1,by have:=(p.pQ b a).2.1;omega,(p.pQ b a).2.2⟩,aI.keep p.row g λb a j d=>(hT b a d.1).2.1 j,p.al,p.g0⟩
 ·exact p.g0.1 b (hT b a.2 a.1).2.2
 ·exact p.g0.2 (hT _ a.2 a.1).2.2
theorem Wo8 (hr:RowR addrs 1 (Wv ad) σ Q)(hl:ad.length<=1000000)(x:Int){e t:Nat}{K:Sl->Hp->Prop}(hK:∀s' w,Ext Q σ w->RowR s' 1 (Wv (ad++[x])) w (λb=>Q b\/σ.size<=b/\b<w.size)->K s' w) :
 Nw (.cells #[.int .i64 x] t (0,0)) σ λn v=>App addrs 1 8 e [.int .i64 0] ⟨some n,1,1⟩ v K:=by
 have m:addrs.len=ad.length:=by have:=hr.1;simp[Wv]at this;omega
 refine RowR.push (F:=λb=>Q b\/σ.size<=b) (vs:=[.int .i64 x]) (aI.mono hr λb _ a=>.inl a) (λb a=>.inr a) rfl rfl (by simp[one1]) O O λs' w i g p=>hK s' w ⟨g.1,λb a j=>g.2 b a λd=>d.elim j λd=>O⟩ ?_;have:Wv (ad++[x])=Wv ad++[.int .i64 x]:=by simp[Wv]
 rw[this];refine aI.mono (aI.cut p) λb a d=>?_;rcases d.1 with h1|h1
 ·exact .inl h1
 ·exact .inr ⟨h1,a⟩
end Go.Ar
namespace Go.Proofs
open Go.Shelf
def Tryz.keysBL_ren:Go.Shelf.Ren:=⟨fun|7=>67|10=>95|n=>n,fun|23=>44|26=>3|3=>76|28=>117|0=>0|27=>116|33=>152|4=>4|n=>n,fun|n=>n⟩
theorem Tryz.keysBL:Go.Proofs.SlLaysZI.n7 Tryz.prog Tryz.keysBL_ren:={
 mixed:=by kernel_rfl
 f7:=⟨Tryz.f67.name,by decide,Tryz.func67.trans (congrArg some (by kernel_rfl))⟩
 f10:=⟨Tryz.f95.name,by decide,Tryz.func95.trans (congrArg some (by kernel_rfl))⟩
 t0:=Tryz.underlying0
 a0:=Tryz.isAgg0
 z0:=Tryz.sizeOf0
 v0:=Tryz.zeroValue0
 t4:=Tryz.underlying4
 a4:=Tryz.isAgg4
 z4:=Tryz.sizeOf4
 v4:=Tryz.zeroValue4
 t23:=Tryz.underlying44
 a23:=Tryz.isAgg44
 z23:=Tryz.sizeOf44
 v23:=Tryz.zeroValue44
 t26:=Tryz.underlying3
 a26:=Tryz.isAgg3
 z26:=Tryz.sizeOf3
 v26:=Tryz.zeroValue3
 t27:=Tryz.underlying116
 a27:=Tryz.isAgg116
 z27:=Tryz.sizeOf116
 v27:=Tryz.zeroValue116
 t28:=Tryz.underlying117
 a28:=Tryz.isAgg117
 z28:=Tryz.sizeOf117
 v28:=Tryz.zeroValue117
 t33:=Tryz.underlying152
 a33:=Tryz.isAgg152
 z33:=Tryz.sizeOf152
 v33:=Tryz.zeroValue152}
end Go.Proofs
namespace Go.Ar
open Go Go.Vc Go.Proofs Go.RowKit Go.Maps Go.Sort Go.Shelf
open Go.Vc (mget mset mdel)
open Go.Bu (SlF Wcx H6 Wci Ha WoG)
variable {σ w w':Hp}{F P Q X S:Rg}{L:LayH}{H H':Hw}{held:List Pc}{s0 sp:Sp}{t n:Nat}{g:Th}{σ0:Hp}
def Gn:Nat:=Tryz.keysBL_ren.f 10
def WeM:Nat:=Tryz.keysBL_ren.t 23
theorem Wkm (m:Option Nat){R:Fv->Hp->Prop}(hR:R ⟨Gn,#[],#[.pointer (some ⟨σ.size,0,none⟩)]⟩ (σ.push (.cells #[.map m] WeM (0,0)))) :
 ZO.c m σ R:=by
 rintro w rfl;refine(callsIn_wide.1 (AnyZI.keys_in Tryz.keysBL Fence.wide 5 trivial rfl m w)).mono ?_;rintro e a ⟨rfl,rfl⟩;exact⟨⟨rfl,rfl,rfl,zCR (by show _<(w.heap.push _).size;simp)⟩,[.func (.func Gn) #[] #[.pointer (some ⟨w.heap.size,0,none⟩)]],rfl,⟨Gn,#[],#[.pointer (some ⟨w.heap.size,0,none⟩)]⟩,rfl,hR⟩
theorem WiJ {w:World}{c m:Nat}{B:List (Int×Bk)}(hc:cell w.heap ⟨c,0,none⟩=some (.map (some m)))(hm:MapL w.heap m .i64 (.ag 4) B)(hb:∀x∈B,Go.Bu.I64 x.1)(hs:B.length<=1000000)(n:Nat)(hn:1<=n) :
 SeqGives Fence.wide n Tryz.prog Gn #[.pointer (some ⟨c,0,none⟩)] encZ (λss=>ss.Perm (B.map (·.1))) B.length w:=by
 obtain⟨D,j,p,b⟩:=Ha (P:=Tryz.prog) Tryz.keysBL.t26 hm hb hs;have a:c<w.heap.size:=by
  unfold cell at hc;split at hc
  ·rename_i h;exact(zAQ.1 h).1
  ·cases hc
 have:=AnyZI.keys_gives (ρ:=Tryz.keysBL_ren) {Tryz.keysBL with} Fence.wide n trivial rfl hn c m B.length D w a hc j;intro l J W hW hJ hY h0;rw[b]at this;refine(this l J W hW hJ hY h0).mono ?_;rintro e W' ⟨i,ss,g,d⟩;exact⟨i,ss,g.trans p,d⟩
theorem Wgy {c m:Nat}{B:List (Int×Bk)}(hc:cell σ ⟨c,0,none⟩=some (.map (some m)))(hm:MapL σ m .i64 (.ag 4) B)(hb:∀x∈B,Go.Bu.I64 x.1)(hs:B.length<=1000000){R:Sl->Hp->Prop}
 (hR:∀(s:Sl) (σ':Hp) (ss:List Int),Ext0 σ σ'->ss.Perm (B.map (·.1))->ss.Pairwise (· <= ·)->SlF σ.size σ' s (ss.map (Value.int .i64))->R s σ') :
 VJ.c ⟨Gn,#[],#[.pointer (some ⟨c,0,none⟩)]⟩ σ R:=by
 rintro w rfl;have d:=WiJ hc hm hb hs 2 O;have j:B.length<=maxLen:=by unfold maxLen;omega
 have u:=AnyZI.sorted_in Tryz.sortedL Fence.wide 5 trivial trivial trivial trivial rfl O (WoG _) (Tryz.sortL.f5.enters rfl) Gn #[.pointer (some ⟨c,0,none⟩)] trivial (Tryz.keysBL.f10.enters rfl) _ _ j O _ d;refine(callsIn_wide.1 u).mono ?_;rintro e A ⟨v,ss,rfl,z,g,r,i⟩;obtain⟨s,rfl,p⟩:=Wcx g;refine⟨Wci i,[.slice s.a s.len s.cap],rfl,s,rfl,?_⟩;refine hR s _ (ss.mergeSort λx y=>decide (x<=y)) (H6 i) ((List.mergeSort_perm _ _).trans z) ?_ p;have:=List.pairwise_mergeSort (le:=λx y:Int=>decide (x<=y)) (λa b c D C=>by simp at *;omega) (λa b=>by simp;omega) ss;exact this.imp (λh=>by simpa using h)
def bkV (b:Bk):List Value:=[.int .i64 b.1,.int .i64 b.2.1,.int .i64 b.2.2.1,.int .i64 b.2.2.2]
def bksV (bs:List Bk):List Value:=bs.flatMap bkV
theorem Hs (bs:List Bk):(bksV bs).length=bs.length*4:=by
 unfold bksV
 induction bs with
 | nil=>rfl
 | cons b bs ih=>rw[zBB,zK,ih];simp[bkV];omega
theorem WcJ:∀{bs:List Bk} {i:Nat} {b:Bk},bs[i]?=some b->∀{j:Nat} {v:Value},(bkV b)[j]?=some v->(bksV bs)[4*i+j]?=some v
 | [],i,b,h,_,_,_=>by simp at h
 | a::bs,0,b,h,j,v,hv=>by
  simp only[zEX,Option.some.injEq]at h;subst h;have hj:=(gSi.1 hv).1;show(bkV a++bksV bs)[4*0+j]?=_;rw[show 4*0+j=j by omega,zd hj];exact hv
 | a::bs,i+1,b,h,j,v,hv=>by
  have d:=WcJ (bs:=bs) (i:=i) (b:=b) (by simpa using h) hv;show(bkV a++bksV bs)[4*(i+1)+j]?=_;rw[zm (by simp[bkV];omega)];have:4*(i+1)+j-(bkV a).length=4*i+j:=by simp[bkV];omega
  rw[this];exact d
structure LiveL (live:List (Int×Bk)) (bs:List Bk):Prop where
 len:bs.length=live.length
 mem:∀b,b∈bs↔(b.1,b)∈live
 srt:bs.Pairwise λa b=>a.1<b.1
theorem HI.live_len (h:HI H held s0):H.live.length<=1000000:=by
 have u:(H.live.map λe=>e.1.toNat).Nodup:=by
  have p:=zAE.1 h.lk;refine zAE.2 λi j g m d e=>?_;have a:i<H.live.length:=by simpa using g
  have b:j<H.live.length:=by simpa using m
  refine p i j (by simpa using a) (by simpa using b) d ?_;simp only[zCT]at e ⊢;have w:=(h.size8 (zc a)).2.1;have y:=(h.size8 (zc b)).2.1;omega
 have:=Wcn 270000 _ u λx s=>by
  obtain⟨e,r,rfl⟩:=zD.1 s;have:=h.size8 r;omega
 have z:(H.live.map λe=>e.1.toNat).length=H.live.length:=by simp
 omega
theorem SlR.of_slF {B:Nat}{s:Sl}{xs:List Value}(h:SlF B σ s xs):SlR s 1 xs σ (λb=>B<=b):=by
 refine⟨by have:=h.1;omega,?_⟩;rcases h.2 with⟨h0,_⟩|⟨b,cs,hb,ha,hk,hc⟩
 ·exact .inl h0
 ·exact .inr ⟨b,0,cs,hb,ha,hk.q,λj a=>by rw[zG];exact hc j a⟩
set_option maxRecDepth 8000 in
theorem Wcd (h:HH σ F L H)(hi:HI H held s0){R:Sl->Hp->Prop}(hR:∀s σ' bs,Ext0 σ σ'->LiveL H.live bs->RowR s 4 (bksV bs) σ' (λb=>σ.size<=b)->R s σ'):Y8.c (aW L.p) σ R:=by
 refine Y8.o ?_;unfold Y8.v;have E:∀x∈H.live,Go.Bu.I64 x.1:=λx g=>by have:=hi.size8 g;unfold Go.Bu.I64;omega
 have U:=hi.live_len;refine Kz h (ifF rfl (nilP (h.hd.rM rfl (Wkm _ ?_))));have Z:Ext0 σ (σ.push (.cells #[.map (some L.lm)] WeM (0,0))):=Ext.push _ _ _;have G:=h.keep0 Z;refine Wgy (by unfold cell;simp) G.liveM E U λs y ss Q J B hs=>?_;have P:=Z.trans Q;have A:=SlR.of_slF hs;have M:ss.Nodup:=J.nodup_iff.2 hi.lk;have u:ss.length=H.live.length:=by rw[J.length_eq];simp
 have hsl:s.len=ss.length:=by have:=A.1;simp at this;omega
 have D:∀x∈ss,∃b,mget H.live x=some b/\b.1=x:=λx g=>by
  obtain⟨e,X,rfl⟩:=zD.1 (J.mem_iff.1 g);exact⟨e.2,V5 hi.lk X,(hi.lv e X).1⟩
 let f:Int->Bk:=λx=>(mget H.live x).getD (0,0,0,0)
 have r:∀x∈ss,(f x).1=x/\mget H.live x=some (f x):=λx g=>by
  obtain⟨b,d,V⟩:=D x g;have:f x=b:=by show(mget H.live x).getD _=b;rw[d];rfl
  rw[this];exact⟨V,d⟩
 have hz1:σ.size<y.size:=by
  have G:=Q.1;have h2:(σ.push (.cells #[.map (some L.lm)] WeM (0,0))).size=σ.size+1:=by simp
  omega
 refine Km (a:=.s) (bb:=bN) (λ(out:Sl) (z:Int) w=>∃i:Nat,z=i/\i<=ss.length/\Ext0 y w/\RowR out 4 (bksV ((ss.take i).map f)) w (λb=>y.size<=b)) (λ_ z _=>ss.length-z.toNat) ⟨0,rfl,O,Ext.refl _ _,⟨by simp[bksV],.inl ⟨rfl,rfl⟩⟩⟩ ?_;rintro(out:Sl) (z:Int) w ⟨i,rfl,hil,ew,hr⟩;have hw:=G.keep0 (Q.trans ew);refine ifD (λC=>?_) λhge=>?_
 ·have g:ss[i]?=some (ss[i]' O):=gGe _;have hol:out.len=i:=by have:=hr.1;rw[Hs]at this;simp at this;omega
  refine(aH.keep0 (aH.cut A) ew).ixI g (nilP (hw.hd.rM rfl ⟨H.live,hw.liveM,?_⟩));refine hr.push (F:=λb=>y.size<=b) (vs:=bkV (f (ss[i]' O))) (λb d=>by have:=ew.1;omega) rfl rfl (by simp[bkV,one1]) O O λs' w' aa S K=>?_;have e3:Ext0 y w':=Ext.fresh ew S λb d=>d;refine arN (m:=i+1) O O ⟨⟨i+1,rfl,O,e3,?_⟩,O⟩;have:bksV ((ss.take (i+1)).map f)=bksV ((ss.take i).map f)++bkV (f (ss[i]' O)):=by
   unfold bksV;rw[zg,g,zAD,zGK];simp only[zDG,zJ,zCC,zBB,List.flatMap_nil,zz]
  rw[this];exact K
 ·have W:i=ss.length:=by omega
  subst W;rw[zl]at hr;refine hR out w (ss.map f) (P.trans ew) ⟨by simp[u],λb=>?_,?_⟩ (aI.mono hr λb _ d=>by
   show σ.size<=b;have d:y.size<=b:=d;omega)
  ·constructor
   ·intro d;obtain⟨x,g,rfl⟩:=zD.1 d;obtain⟨q1,q2⟩:=r x g;rw[q1];exact KV q2
   ·intro d;have g:b.1∈ss:=J.mem_iff.2 (zD.2 ⟨_,d,rfl⟩);refine zD.2 ⟨b.1,g,?_⟩;have:=(r _ g).2;rw[V5 hi.lk d]at this;exact(Option.some.inj this).symm
  ·rw[zCN];have C:ss.Pairwise (· < ·):=(B.and M).imp λ⟨G,h2⟩=>by
    have:_≠_:=h2;omega
   refine zAE.2 λi j hi Y N=>?_;rw[(r _ (zc hi)).1,(r _ (zc Y)).1];exact zAE.1 C i j hi Y N
theorem Wnq {s:Sl}{bs:List Bk}(hs:SlR s 4 (bksV bs) σ F){i:Nat}{b:Bk}(hb:bs[i]?=some b){K:Addr->Prop}(hK:∀bb o,(∀(j:Nat) v,(bkV b)[j]?=some v->cell σ ⟨bb,o+j,none⟩=some v)->K ⟨bb,o,none⟩):Ix s.a s.len (i:Int) 4 K:=by
 have p:=(gSi.1 hb).1;have x:s.len=bs.length:=by have:=hs.1;rw[Hs]at this;omega
 obtain⟨bb,o,e,r⟩:=hs.cell (WcJ hb (j:=0) rfl);rw[e];refine ix O O ?_;rw[add_lit,iTn];refine hK bb _ λj v g=>?_;obtain⟨w,u,d,m⟩:=hs.cell (WcJ hb g);rw[e]at d;cases d;rw[←m];congr 2;omega
end Go.Ar
namespace Go.Ar
open Go.Bu (cnt)
variable {W:Wd}{k:Nat}{A:AR}
def at2 {α:Type}(f:Cls->α->Nat)(tb:List Cls)(l:List α)(j:Nat):Nat:=match tb[j]?,l[j]? with
 | some c,some a=>f c a
 | _,_=>0
theorem Wog {α:Type}{f:Cls->α->Nat}{tb:List Cls}{l:List α}{j:Nat}{c:Cls}{a:α}(h1:tb[j]?=some c)(h2:l[j]?=some a):at2 f tb l j=f c a:=by unfold at2;rw[h1,h2]
theorem WiO {α:Type}(f:Cls->α->Nat):∀(tb:List Cls) (l:List α),l.length=tb.length->((tb.zip l).map λx=>f x.1 x.2).sum=((List.range tb.length).map (at2 f tb l)).sum
 | [],l,h=>by simp
 | c::tb,[],h=>by simp at h
 | c::tb,a::l,h=>by
  have ih:=WiO f tb l (by simpa using h);rw[zGU,zJ,zp,ih,zP,zFR,zJ,zp,zt];rfl
def pgL (c:Cls)(ss:List SpA):List Nat:=ss.flatMap λs=>(List.range c.pages).map (s.st + ·)
theorem WnH (c:Cls)(ss:List SpA):(pgL c ss).length=ss.length*c.pages:=by
 induction ss with
 | nil=>simp[pgL]
 | cons s ss ih=>
  have e:pgL c (s::ss)=(List.range c.pages).map (s.st + ·)++pgL c ss:=rfl;rw[e,zK,ih];simp[zj];omega
theorem We5 {c:Cls}{ss:List SpA}{p:Nat}:p∈pgL c ss↔Cov c ss p:=by
 simp only[pgL,zCP,zD,zV,Cov];constructor
 ·rintro⟨s,hs,i,hi,rfl⟩;exact⟨s,hs,O,O⟩
 ·rintro⟨s,hs,h1,h2⟩;exact⟨s,hs,p-s.st,O,O⟩
theorem WiC {c:Cls}{ss:List SpA}(h:ss.Pairwise λa b=>a.st+c.pages<=b.st):(pgL c ss).Nodup:=by
 induction ss with
 | nil=>exact zCQ
 | cons s ss ih=>
  have g:=zAS.1 h;have e:pgL c (s::ss)=(List.range c.pages).map (s.st + ·)++pgL c ss:=rfl;rw[e,zBK];refine⟨?_,ih g.2,λa r b m e=>?_⟩
  ·exact List.Pairwise.map (R:=(· ≠ ·)) _ (λa b d e=>d O) zER
  ·subst e;obtain⟨i,j,rfl⟩:=zD.1 r;obtain⟨t,p,u,w⟩:=We5.1 m;have:=g.1 t p;have:=zV.1 j;omega
def rnL (l:List (Nat×Nat)):List Nat:=l.flatMap λr=>(List.range r.2).map (r.1 + ·)
theorem WnP (l:List (Nat×Nat)):(rnL l).length=(l.map (·.2)).sum:=by
 induction l with
 | nil=>rfl
 | cons r l ih=>
  have e:rnL (r::l)=(List.range r.2).map (r.1 + ·)++rnL l:=rfl;rw[e,zK,ih];simp
theorem Wee {l:List (Nat×Nat)}{p:Nat}:p∈rnL l↔inR l p:=by
 simp only[rnL,zCP,zD,zV,inR];constructor
 ·rintro⟨s,hs,i,hi,rfl⟩;exact⟨s,hs,O,O⟩
 ·rintro⟨s,hs,h1,h2⟩;exact⟨s,hs,p-s.1,O,O⟩
theorem Wii {l:List (Nat×Nat)}(h:l.Pairwise λa b=>a.1+a.2<=b.1\/b.1+b.2<=a.1):(rnL l).Nodup:=by
 induction l with
 | nil=>exact zCQ
 | cons s ss ih=>
  have g:=zAS.1 h;have e:rnL (s::ss)=(List.range s.2).map (s.1 + ·)++rnL ss:=rfl;rw[e,zBK];refine⟨?_,ih g.2,λa r b m e=>?_⟩
  ·exact List.Pairwise.map (R:=(· ≠ ·)) _ (λa b d e=>d O) zER
  ·subst e;obtain⟨i,j,rfl⟩:=zD.1 r;obtain⟨t,p,u,w⟩:=Wee.1 m;have:=g.1 t p;have:=zV.1 j;omega
theorem WbI {n:Nat}{l:List Nat}(hn:l.Nodup)(hl:∀x∈l,x<n){f:Nat->Bool}(hf:∀p,p<n->(f p=true↔p∈l)):(List.range n).countP f=l.length:=by
 rw[zES];refine List.Perm.length_eq ?_;rw[zEQ (List.nodup_range.filter _) hn];intro x;rw[zH,zV];exact⟨λ⟨a,b⟩=>(hf x a).1 b,λd=>⟨hl x d,(hf x (hl x d)).2 d⟩⟩
theorem WhY (ga:GA A):Ub A+Uf A+cnt A.n A.S=(List.range A.n).countP λ(p:Nat)=>UN A (p:Int):=by
 have key:∀m,m<=A.tb.length->(List.range A.n).countP (λp=>A.ow p != 0&&decide (A.ow p<=m))=((List.range m).map (at2 (λc b=>b.length*c.pages) A.tb A.cen)).sum:=by
  intro m
  induction m with
  | zero=>
   intro _;simp
  | succ m ih=>
   intro hm;rw[zAC,zAD,zDK,←ih O,List.map_singleton,List.sum_singleton];obtain⟨c,b,t,g,_⟩:=ga.cl (k:=m) O;have H:=ga.cen m c b g;rw[Wog g.1 g.2,←WnH c b,←WbI (n:=A.n) (WiC H.far) (λx d=>by
    obtain⟨s,i,a,e⟩:=We5.1 d;exact ga.pg.lt (by rw[(ga.used g i a e).1];omega)) (f:=λp=>A.ow p==m+1) (λp _=>by rw[We5,←ga.ow m c b g p];simp)]
   symm
   apply Go.Bu.countP_add;intro p _;by_cases a:A.ow p=m+1
   ·simp[a]
   ·by_cases e:A.ow p<=m
    ·have:(A.ow p==m+1)=false:=by simpa using a
     have y:decide (A.ow p<=m+1)=true:=by simp;omega
     simp[this,e,y]
    ·have:(A.ow p==m+1)=false:=by simpa using a
     have y:¬A.ow p<=m+1:=by omega
     simp[this,e,y]
 have z:=key A.tb.length (zC _);have K:Ub A=(List.range A.n).countP (λp=>A.ow p != 0&&decide (A.ow p<=A.tb.length)):=by
  rw[z];unfold Ub;rw[WiO (λc b=>b.length*c.pages) A.tb A.cen ga.lc]
 have J:Uf A=(List.range A.n).countP (λp=>A.ow p==41):=by
  unfold Uf;rw[←WnP,WbI (Wii ga.rdis) (λx d=>by
   obtain⟨r,G,a,e⟩:=Wee.1 d;exact ga.pg.lt (by rw[(ga.usedR G a e).1];omega)) (f:=λp=>A.ow p==41) (λp _=>by rw[Wee,←ga.ow41];simp)]
 have L:=ga.tb;have B:(List.range A.n).countP (λp=>A.ow p != 0&&decide (A.ow p<=A.tb.length))+(List.range A.n).countP (λp=>A.ow p==41)=(List.range A.n).countP (λp=>A.ow p != 0):=by
  apply Go.Bu.countP_add;intro p _;rcases ga.owb p with a|a
  ·have:¬A.ow p<=A.tb.length:=by omega
   simp[a];omega
  ·have:(A.ow p==41)=false:=by simp;omega
   simp[this,a]
 have D:(List.range A.n).countP (λp=>A.ow p != 0)+(List.range A.n).countP A.S=(List.range A.n).countP λ(p:Nat)=>UN A (p:Int):=by
  apply Go.Bu.countP_add;intro p _;have u:=ga.pg.us p;have i:=ga.pg.fr p;have E:UN A (p:Int)=decide (A.f p≠0):=by
   unfold UN AR.f gf;rw[zU (show(0:Int)<=p by omega),zEI,iTn]
  rw[E];have C:=ga.pg.le p;by_cases h0:A.f p=0
  ·have:A.ow p=0:=Classical.byContradiction λw=>by have:=u.2 w;omega
   have j:A.S p=false:=by apply zAU.2;intro d;have:=i.1 d;omega
   simp[h0,this,j]
  ·by_cases a:A.f p=1
   ·have F:=u.1 a;have j:A.S p=false:=by apply zAU.2;intro d;have:=i.1 d;omega
    simp[a,F,j]
   ·have:A.ow p=0:=Classical.byContradiction λw=>a (u.2 w);have j:A.S p=true:=i.2 O;simp[h0,this,j]
 unfold cnt;rw[K,J,B,D]
theorem Wb4 (ga:GA A):Uf A<=1024:=by
 have a:=WhY ga;have b:(List.range A.n).countP (λ(p:Nat)=>UN A (p:Int))<=A.n:=by
  refine zI zEE ?_;rw[zBS];exact zC _
 have:=ga.pg.n2;omega
end Go.Ar
namespace Go.Ar
open Go Go.Vc Go.Proofs
open Go.Vc (mget mset mdel)
open Go.Bu (cnt)
variable {σ v w w':Hp}{F P Q X:Rg}{L:LayH}{H H':Hw}{held:List Pc}{s0:Sp}{t n:Nat}{g:Th}{nb sb m:Nat}{x:List Int}
def sz0 (b:Bk):Int:=if 0<=b.2.2.1 then b.2.1 else 0
def Hz (l:List (Int×Bk)):Int:=(l.map λe=>sz0 e.2).sum
def VZ (H:Hw):Nat:=(H.ths.map λg=>Qt H.tb g.ls).sum
def Vh (f:AR->Nat)(H:Hw):Nat:=(H.ars.map f).sum
def Vx (A:AR):Nat:=cnt A.n A.S
theorem Wfe {α:Type}(f:α->Int):∀{l:List (Int×α)} {n:Int} {x:α},(l.map (·.1)).Nodup->(n,x)∈l->(l.map λe=>f e.2).sum=f x+((l.filter λy=>!(y.1==n)).map λe=>f e.2).sum
 | [],_,_,_,h=>by simp at h
 | y::l,n,x,hn,h=>by
  simp only[zJ,zo]at hn;rcases zQ.1 h with h1|h1
  ·subst h1;have:l.filter (λy=>!(y.1==n))=l:=by
    rw[zBL];intro z hz;have:z.1≠n:=λe=>hn.1 (zD.2 ⟨z,hz,e⟩);simpa using this
   rw[zDL aA,this];simp
  ·have a:y.1≠n:=λe=>hn.1 (zD.2 ⟨_,h1,e.symm⟩);rw[zDM (by simpa using a)];simp only[zJ,zp];rw[Wfe f hn.2 h1];omega
theorem Uh {α:Type}{f:α->Int}{c:Int}:∀{l:List α},(∀e∈l,0<=f e/\f e<=c)->0<=(l.map f).sum/\(l.map f).sum<=l.length*c
 | [],_=>by simp
 | a::l,h=>by
  have h1:=h a zAN;have d:=Uh λe b=>h e (zAJ _ b);simp only[zJ,zp,zP,Int.natCast_add,Int.add_mul];omega
theorem WiU (hi:HI H held s0){e:Int×Bk}(he:e∈H.live):0<=sz0 e.2/\sz0 e.2<=270000:=by
 have:=hi.size8 he;unfold sz0;split<;>omega
theorem WdO {α:Type}(f:α->Nat){l:List α}{i:Nat}{a:α}(h:l[i]?=some a):((l.take (i+1)).map f).sum=((l.take i).map f).sum+f a:=by
 rw[zg,h];simp
theorem Wm1 {α:Type}{f:α->Nat}{c:Nat}{l:List α}(h:∀a∈l,f a<=c):(l.map f).sum<=l.length*c:=by
 induction l with
 | nil=>simp
 | cons a l ih=>
  have d:=h a zAN;have g:=ih λe b=>h e (zAJ _ b);simp only[zJ,zp,zP,zj];omega
theorem Wgl {α:Type}{f:α->Nat}{c:Nat}{l:List α}(h:∀a∈l,f a<=c)(i:Nat):((l.take i).map f).sum<=i*c:=
 zI (Wm1 λa b=>h a (zAR b)) (zAK c (by rw[zO];omega))
def V1:List Value:=[.int .i64 0,.int .i64 0,.int .i64 0,.int .i64 0,.int .i64 0,.int .i64 0,.int .i64 0,.int .i64 0,.int .i64 0,.int .i64 0,.int .i64 0]
structure StB (σ:Hp) (nb sb:Nat) (v:Hp) (x:List Int):Prop where
 e:Ext0 σ v
 n:Blk v nb V1
 s:Blk v sb (x.map (Value.int .i64))
 h1:σ.size<=nb
 h2:σ.size<=sb
 h3:nb≠sb
 hl:x.length=11
theorem StB.fr (h:StB σ nb sb v x)(e:Ext0 v w):StB σ nb sb w x:=⟨h.e.trans e,e.blk h.n id,e.blk h.s id,h.h1,h.h2,h.h3,h.hl⟩
theorem StB.own (h:StB σ nb sb v x)(o:QD v w m)(h4:v.size<=m\/m≠nb/\m≠sb/\σ.size<=m):StB σ nb sb w x:=by
 have g:=h.n.lt;have j:=h.s.lt;have d:=h.e.1;exact⟨Ext.fresh h.e o.ext λi (b:i=m)=>O,o.ext.blk h.n λ(a:nb=m)=>O,o.ext.blk h.s λ(a:sb=m)=>O,h.h1,h.h2,h.h3,h.hl⟩
theorem StB.rd (h:StB σ nb sb v x){i:Nat}{y:Int}(hy:x[i]?=some y){K:Int->Prop}(hK:K y):LdI .i64 (Addr.add ⟨sb,0,none⟩ i) v K:=
 h.s.rI (by rw[zG,ze,hy];rfl) hK
theorem StB.st (h:StB σ nb sb v x){i:Nat}{y:Int}(hi:i<11){K:aP}(hK:∀w,Ext (· = sb) v w->StB σ nb sb w (x.set i y)->K w):St1 (Addr.add ⟨sb,0,none⟩ i) (.int .i64 y) v K:=by
 have hl:=h.hl;refine h.s.s1 (by rw[za];omega) λw o b=>hK w o.ext ⟨Ext.fresh h.e o.ext λi (hi:i=sb)=>by have:=h.h2;omega,o.ext.blk h.n λ(a:nb=sb)=>h.h3 a,?_,h.h1,h.h2,h.h3,by rw[zBR,hl]⟩;rw[zG,←zDJ]at b;exact b
theorem Wo4 {K:Fam [.ad]}{body:Fam [.ad]->Prop}(P:Addr->Hp->Prop)(h1:∀r w,P r w->K r w)(h2:∀J:Fam [.ad],(∀r w,P r w->J r w)->body J):Jn [.ad] K body:=Jn.intro (h2 K h1)
theorem BtR.nil_len {s:Sl}(h:BtR s [] σ F):s.len=0:=by have:=h.len;simpa using this
theorem HH.hnS (h:HH σ F L H){x:LayT}(hx:L.ts[t]?=some x)(hg:H.ths[t]?=some g):BtR x.h g.hands σ F:=by
 obtain⟨G,d,a⟩:=h.sep.get (.hn t);simp only[CH,hx,hg,HnH]at a;exact Lcl.mono (BtR.loc _ _) a λb _ a=>d b a
theorem HH.caS (h:HH σ F L H){x:LayT}(hx:L.ts[t]?=some x)(hg:H.ths[t]?=some g):CaY σ F x.c H.tb H.cf.budget g.ls:=by
 obtain⟨G,d,a⟩:=h.sep.get (.ca t);simp only[CH,hx,hg,CaH]at a;exact Lcl.mono CaY.loc a λb _ a=>d b a
theorem Wal {A:AR}(ga:GA A):Vx A<=1024:=by
 have a:Vx A<=A.n:=by
  unfold Vx cnt;refine zI zEE ?_;rw[zBS];exact zC _
 have:=ga.pg.n2;omega
theorem StB.rdH (h:StB σ nb sb v x){i:Nat}{y:Int}(hy:x[i]?=some y){K:Int->Prop}(hK:K y):LdH (λm=>Ext0 v m) bN (Addr.add ⟨sb,0,none⟩ i) K:=
 ⟨y,λm a=>by rw[add_lit,(Ext.blk a h.s id).cell,zG,ze,hy];rfl,hK⟩
theorem Blk.rH {b i:Nat}{cs:List Value}{c:CK}{y:c.T}(hb:Blk v b cs)(hc:cs[i]?=some (c.v y)){K:c.T->Prop}(hK:K y):LdH (λm=>Ext0 v m) c (Addr.add ⟨b,0,none⟩ i) K:=
 ⟨y,λm a=>by rw[add_lit,(Ext.blk a hb id).cell,zG];exact hc,hK⟩
theorem st11 {b:Nat}(hb:Blk v b V1)(a0 a1 a2 a3 a4 a5 a6 a7 a8 a9 a10:Int){K:aP}(hK:∀w,Ext (· = b) v w->Blk w b ([a0,a1,a2,a3,a4,a5,a6,a7,a8,a9,a10].map (Value.int .i64))->K w) :
 St1 (Addr.add ⟨b,0,none⟩ 0) (.int .i64 a0) v λv57=>St1 (Addr.add ⟨b,0,none⟩ 1) (.int .i64 a1) v57 λv58=>St1 (Addr.add ⟨b,0,none⟩ 2) (.int .i64 a2) v58 λv59=>St1 (Addr.add ⟨b,0,none⟩ 3) (.int .i64 a3) v59 λv60=>
 St1 (Addr.add ⟨b,0,none⟩ 4) (.int .i64 a4) v60 λv61=>St1 (Addr.add ⟨b,0,none⟩ 5) (.int .i64 a5) v61 λv62=>St1 (Addr.add ⟨b,0,none⟩ 6) (.int .i64 a6) v62 λv63=>St1 (Addr.add ⟨b,0,none⟩ 7) (.int .i64 a7) v63 λv64=>
 St1 (Addr.add ⟨b,0,none⟩ 8) (.int .i64 a8) v64 λv65=>St1 (Addr.add ⟨b,0,none⟩ 9) (.int .i64 a9) v65 λv66=>St1 (Addr.add ⟨b,0,none⟩ 10) (.int .i64 a10) v66 K:=by
 unfold V1 at hb;refine hb.s1 aA λC o1 m=>m.s1 aA λB o2 y=>y.s1 aA λv3 o3 u=>u.s1 aA λE o4 j=>j.s1 aA λD o5 x=>x.s1 aA λF o6 z=>z.s1 aA λG o7 i=>i.s1 aA λH o8 s=>s.s1 aA λA o9 p=>p.s1 aA λr o10 g=>g.s1 aA λd e a=>?_;exact hK d ((((((((((o1.ext.trans o2.ext).trans o3.ext).trans o4.ext).trans o5.ext).trans o6.ext).trans o7.ext).trans o8.ext).trans o9.ext).trans o10.ext).trans e.ext) a
theorem StB.fin {a0 a1 a2 a3 a4 a5 a6 a7 a8 a9 a10:Int}(B:StB σ nb sb v [a0,a1,a2,a3,a4,a5,a6,a7,a8,a9,a10]){R:Int->Int->Int->Int->Int->Int->Int->Int->Int->Int->Int->Hp->Prop}(hR:∀w,Ext0 σ w->R a0 a1 a2 a3 a4 a5 a6 a7 a8 a9 a10 w) :
 LdI .i64 (Addr.add ⟨sb,0,none⟩ 0) v λt0=>LdI .i64 (Addr.add ⟨sb,0,none⟩ 1) v λt1=>LdI .i64 (Addr.add ⟨sb,0,none⟩ 2) v λt2=>LdI .i64 (Addr.add ⟨sb,0,none⟩ 3) v λt3=>LdI .i64 (Addr.add ⟨sb,0,none⟩ 4) v λt4=>
 LdI .i64 (Addr.add ⟨sb,0,none⟩ 5) v λt5=>LdI .i64 (Addr.add ⟨sb,0,none⟩ 6) v λt6=>LdI .i64 (Addr.add ⟨sb,0,none⟩ 7) v λt7=>LdI .i64 (Addr.add ⟨sb,0,none⟩ 8) v λt8=>LdI .i64 (Addr.add ⟨sb,0,none⟩ 9) v λt9=>LdI .i64 (Addr.add ⟨sb,0,none⟩ 10) v λt10=>
 St1 (Addr.add ⟨nb,0,none⟩ 0) (.int .i64 t0) v λv57=>St1 (Addr.add ⟨nb,0,none⟩ 1) (.int .i64 t1) v57 λv58=>St1 (Addr.add ⟨nb,0,none⟩ 2) (.int .i64 t2) v58 λv59=>St1 (Addr.add ⟨nb,0,none⟩ 3) (.int .i64 t3) v59 λv60=>
 St1 (Addr.add ⟨nb,0,none⟩ 4) (.int .i64 t4) v60 λv61=>St1 (Addr.add ⟨nb,0,none⟩ 5) (.int .i64 t5) v61 λv62=>St1 (Addr.add ⟨nb,0,none⟩ 6) (.int .i64 t6) v62 λv63=>St1 (Addr.add ⟨nb,0,none⟩ 7) (.int .i64 t7) v63 λv64=>
 St1 (Addr.add ⟨nb,0,none⟩ 8) (.int .i64 t8) v64 λv65=>St1 (Addr.add ⟨nb,0,none⟩ 9) (.int .i64 t9) v65 λv66=>St1 (Addr.add ⟨nb,0,none⟩ 10) (.int .i64 t10) v66 λv67=>
 LdI .i64 (Addr.add ⟨nb,0,none⟩ 0) v67 λt0=>LdI .i64 (Addr.add ⟨nb,0,none⟩ 1) v67 λt1=>LdI .i64 (Addr.add ⟨nb,0,none⟩ 2) v67 λt2=>LdI .i64 (Addr.add ⟨nb,0,none⟩ 3) v67 λt3=>LdI .i64 (Addr.add ⟨nb,0,none⟩ 4) v67 λt4=>
 LdI .i64 (Addr.add ⟨nb,0,none⟩ 5) v67 λt5=>LdI .i64 (Addr.add ⟨nb,0,none⟩ 6) v67 λt6=>LdI .i64 (Addr.add ⟨nb,0,none⟩ 7) v67 λt7=>LdI .i64 (Addr.add ⟨nb,0,none⟩ 8) v67 λt8=>LdI .i64 (Addr.add ⟨nb,0,none⟩ 9) v67 λt9=>LdI .i64 (Addr.add ⟨nb,0,none⟩ 10) v67 λt10=>
 R t0 t1 t2 t3 t4 t5 t6 t7 t8 t9 t10 v67:=by
 refine B.rd rfl (B.rd rfl (B.rd rfl (B.rd rfl (B.rd rfl (B.rd rfl (B.rd rfl (B.rd rfl (B.rd rfl (B.rd rfl (B.rd rfl (st11 B.n a0 a1 a2 a3 a4 a5 a6 a7 a8 a9 a10 λw e b=>?_)))))))))));refine b.rI rfl (b.rI rfl (b.rI rfl (b.rI rfl (b.rI rfl (b.rI rfl (b.rI rfl (b.rI rfl (b.rI rfl (b.rI rfl (b.rI rfl (hR w ?_)))))))))));exact Ext.fresh B.e e λi (a:i=nb)=>by have:=B.h1;omega
theorem HH.tBox (h:HH σ F L H){x:LayT}(hx:L.ts[t]?=some x)(hg:H.ths[t]?=some g){ty:Nat}{K:Addr->Hp->Prop}(hK:∀v,Ext0 σ v->σ.size<v.size->Blk v σ.size (thV (x,g))->K ⟨σ.size,0,none⟩ v) :
 Ix L.trow.a L.trow.len (t:Int) 3 λa58=>LdP (a58.add 0) σ λt59=>LdS (a58.add 1) σ λt591=>LdR (a58.add 2) σ λt592=>
  Nw (.cells #[.pointer none,.slice none 0 0,.nilIface] ty (0,0)) σ λn7 v17=>O1 t592<|St1 (n7.add 0) (.pointer t59) v17 λv18=>St1 (n7.add 1) (.slice t591.a t591.len t591.cap) v18 λv19=>St1 (n7.add 2) t592 v19 λv20=>K n7 v20:=by
 obtain⟨b,o,u,J⟩:=Ur h.trowS hx hg (d:=0) O rfl;obtain⟨P,o1,e,M⟩:=Ur h.trowS hx hg (d:=1) O rfl;obtain⟨s,o2,j,D⟩:=Ur h.trowS hx hg (d:=2) O rfl;rw[u]at e j;cases e;cases j;have Q:=h.trowL;have R:=(gSi.1 hg).1;rw[u];refine ix O O ?_;rw[add_lit,show o+(t:Int).toNat*3=o+3*t by omega];refine ldP (by rw[add_lit,zCF];exact J) (ldS (by rw[add_lit,zCF];exact M) ⟨_,by rw[add_lit,zCF];exact D,?_⟩);refine nw (cs:=[.pointer none,.slice none 0 0,.nilIface]) λN y G s=>?_;have z:∀{A:Prop},A->O1 (phV g.ph) A:=λ{A} r=>by
  cases g.ph with
  | none=>exact r
  | some p=>cases p<;>exact r
 refine z (s.s1 aA λv3 o3 C=>C.s1 aA λS o4 w=>w.s1 aA λB o5 E=>?_);exact hK B (Ext.fresh (Ext.fresh (Ext.fresh G o3.ext λi m=>O) o4.ext λi m=>O) o5.ext λi m=>O) (by have:=o3.1;have:=o4.1;have:=o5.1;omega) E
structure StOk (H:Hw):Prop where
 cache:VZ H<=20971520
 moved:Vh Ud H<=160000000000
 room:Vh Wan H<=160000000000
 tails:Vh Ut H<=160000000000
 spans:Vh Ub H<=160000000000
 runs:Vh Uf H<=4096
 free:Vh Vx H<=4096
set_option maxRecDepth 16000 in
theorem Wde (h:HH σ F L H)(hi:HI H held s0)(hh:∀g∈H.ths,g.hands=[]){R:Int->Int->Int->Int->Int->Int->Int->Int->Int->Int->Int->Hp->Prop}
 (hR:∀σ',Ext0 σ σ'->StOk H->R (Hz H.live) (VZ H:Nat) 0 (Vh Ud H:Nat) (Vh Wan H:Nat) (Vh Ut H:Nat) (Vh Uf H*256:Nat) (Vh Ub H:Nat) (Vh Vx H:Nat) (VE H.sp.st:Nat) (H.sp.st.count 2:Nat) σ'):YU.c (aW L.p) σ R:=by
 refine YU.o ?_;unfold YU.v;refine nw (cs:=V1) λv hz e hb=>Kz (h.keep0 e) (ifF rfl ?_);have hv:=h.keep0 e;generalize hm0:((VE H.sp.st:Nat):Int)=M at hR;generalize hd0:((H.sp.st.count 2:Nat):Int)=D at hR;refine Wo4 (λs w=>∃d,s=⟨d,0,none⟩/\StB σ σ.size d w [0,0,0,0,0,0,0,0,0,M,D]) (λs w ⟨d,hs,B⟩=>?_) λJ hJ=>?_
 ·subst hs;have hw:=h.keep0 B.e;have B0:=B;refine nilP (hw.hd.rM rfl ?_);have hml:=hw.liveM;have hll:=hi.live_len;refine rng0 (c:=.ag 4) hml (λ(b:List (Int×Bk)) u=>∃z:Int,StB σ σ.size d u [z,0,0,0,0,0,0,0,0,M,D]/\(b.map (·.1)).Nodup/\(∀y∈b,y∈H.live)/\0<=z/\z+(b.map λe=>sz0 e.2).sum=Hz H.live) (λu hz eu=>⟨0,B.fr eu,hml.nodup,λy hy=>hy,O,by rw[Int.zero_add];rfl⟩) (λu ⟨z,B,_,_,_,hz⟩=>?_) ?_
  ·have hz':z=Hz H.live:=by simpa using hz
   subst hz';have hu:=h.keep0 B.e;have ht2:=h.s.t2;refine nilP (hu.hd.rS rfl ?_);refine ZT (a:=bN) (λ(i:Int) u=>∃k:Nat,i=k/\k<=H.ths.length/\StB σ σ.size d u [Hz H.live,(((H.ths.take k).map λg=>Qt H.tb g.ls).sum:Nat),0,0,0,0,0,0,0,M,D]/\((H.ths.take k).map λg=>Qt H.tb g.ls).sum<=k*5242880) (λi _=>H.ths.length-i.toNat) ⟨0,rfl,O,by simpa using B,by simp⟩ ?_;rintro(i:Int) u1 ⟨k,rfl,hk,B,hsum⟩;have h1:=h.keep0 B.e;have htl:=h1.trowL;refine ifD (λQ=>?_) λaa=>?_
   ·have W:k<H.ths.length:=by simp only at Q;omega
    obtain⟨x,g,N,V⟩:=h1.th W;have hsb:=B.s.lt;refine h1.tBox N V λv1 e1 hlt1 b1=>?_;have B1:=B.fr e1;have h2:=h1.keep0 e1;have hca:=h2.caS N V;have hby:=WdD hca hca.lok;have hnl:=h2.hnS N V;rw[hh g (zE V)]at hnl;refine⟨λm=>Ext0 v1 m,Ext.refl _ _,B1.rdH rfl (Blk.rH (c:=.p) (y:=some ⟨x.c.p,0,none⟩) b1 rfl (WcN hca λv2 e2=>⟨e2,?_⟩))⟩;have B2:=B1.fr e2;have b2:=e2.blk b1 id;have hs:=WdO (λg=>Qt H.tb g.ls) V;refine arN (m:=((H.ths.take (k+1)).map λg=>Qt H.tb g.ls).sum) (by rw[hs];simp) (by rw[hs];omega) (B2.st O λv3 e3 B3=>?_);have b3:=e3.blk b2 (λ(N:u1.size=d)=>O);refine b3.rS rfl (ZT (a:=bN) (λ(c:Int) w=>w=v3/\c=0) (λ_ _=>0) ⟨rfl,rfl⟩ ?_);rintro(c:Int) w ⟨rfl,rfl⟩;refine ifD (λhl=>?_) λ_=>arN (m:=k+1) O O ⟨⟨k+1,rfl,O,B3,by rw[hs];omega⟩,O⟩;have:=hnl.nil_len;simp only at hl;omega
   ·have hkk:k=H.ths.length:=by simp only at aa;omega
    subst hkk;rw[zl]at B hsum;have X:VZ H<=20971520:=by unfold VZ;omega
    have ha2:=h.s.a2;refine nilP (h1.hd.rS rfl ?_);have K:∀A∈H.ars,GA A:=λA j=>by obtain⟨k,hk⟩:=zN j;exact hi.wi.ga k A hk
    let P (f:AR->Nat) (k:Nat):Nat:=((H.ars.take k).map f).sum
    have hP:∀(f:AR->Nat) {k:Nat} {A:AR},H.ars[k]?=some A->P f (k+1)=P f k+f A:=λf _ _ j=>WdO f j;have U:∀{f:AR->Nat} {c:Nat},(∀A∈H.ars,f A<=c)->∀k,P f k<=k*c:=λhf k=>Wgl hf k;have C:∀f,P f H.ars.length=Vh f H:=λf=>by show((H.ars.take H.ars.length).map f).sum=_;rw[zl];rfl
    have E:∀f,P f 0=0:=λf=>by show((H.ars.take 0).map f).sum=0;simp
    clear_value P
    refine ZT (a:=bN) (λ(i:Int) u=>∃k:Nat,i=k/\k<=H.ars.length/\StB σ σ.size d u [Hz H.live,(VZ H:Nat),0,(P Ud k:Nat),(P Wan k:Nat),(P Ut k:Nat),(P Uf k*256:Nat),(P Ub k:Nat),(P Vx k:Nat),M,D]/\P Ud k<=k*40000000000/\P Wan k<=k*40000000000/\P Ut k<=k*40000000000/\P Ub k<=k*40000000000) (λi _=>H.ars.length-i.toNat) ⟨0,rfl,O,?_⟩ ?_
    ·rw[E,E,E,E,E,E];exact⟨B,O,O,O,O⟩
    rintro(i:Int) u2 ⟨k,rfl,hk,B,l1,l2,l3,l4⟩;have h2:=h.keep0 B.e;have hal:=h2.arowL;refine ifD (λQ=>?_) λaa=>?_
    ·have W:k<H.ars.length:=by simp only at Q;omega
     have j:H.ars[k]?=some H.ars[k]:=gGe _;generalize H.ars[k]=A at j;have ga:=K A (zE j);have r5:=Wb4 ga;have r6:=Wal ga;obtain⟨Y,hy,_,hAY⟩:=h2.ar j;refine h2.rA hy (Weq hAY O λv2 e2 ⟨r1,r2,r3,r4⟩=>?_);have B2:=B.fr e2;have s1:=hP Ud j;have s2:=hP Wan j;have s3:=hP Ut j;have s4:=hP Ub j;have s5:=hP Uf j;have s6:=hP Vx j;have l5:=U (f:=Uf) (λA j=>Wb4 (K A j)) k;have l6:=U (f:=Vx) (λA j=>Wal (K A j)) k;have hfr:((cnt A.n A.S:Nat):Int)=(Vx A:Nat):=rfl;refine B2.rd rfl (arN (m:=P Ud (k+1)) (by rw[s1];simp) O (B2.rd rfl (arN (m:=P Wan (k+1)) (by rw[s2];simp) O (B2.rd rfl (arN (m:=P Ut (k+1)) (by rw[s3];simp) O ?_)))));refine B2.st O λv3 _ B3=>B3.st O λv4 _ B4=>B4.st O λv5 _ B5=>?_;refine B5.rd rfl (arN (m:=P Ub (k+1)) (by rw[s4];simp) O (B5.rd rfl (arN (m:=Uf A*256) aA O (arN (m:=P Uf (k+1)*256) (by rw[s5,zj];simp) O (B5.rd rfl (arN (m:=P Vx (k+1)) (by rw[s6,hfr];simp) O ?_))))));refine B5.st O λv6 _ B6=>B6.st O λv7 _ B7=>B7.st O λv8 _ B8=>?_;exact arN (m:=k+1) O O ⟨⟨k+1,rfl,O,B8,O,O,O,O⟩,O⟩
    ·have hkk:k=H.ars.length:=by simp only at aa;omega
     subst hkk;have l5:=U (f:=Uf) (λA j=>Wb4 (K A j)) H.ars.length;have l6:=U (f:=Vx) (λA j=>Wal (K A j)) H.ars.length;rw[C]at l1 l2 l3 l4 l5 l6;rw[C,C,C,C,C,C]at B;exact B.fin λw e=>hR w e ⟨X,O,O,O,O,O,O⟩
  ·rintro(b:List (Int×Bk)) n (x:Bk) w1 w2 J1 ⟨z,B,hn,hin,hz0,hz⟩ N ho Q hJ1;have hsb:=B0.s.lt;have hnb:=B0.n.lt;have hz2:=ho.1;have hlm:L.lm<σ.size:=h.liveM.lt;have B2:=B.own ho (.inr ⟨O,O,O⟩);have hl:=hin _ N;have hdel:=Wfe sz0 hn N;have G:∀y∈b.filter λy=>!(y.1==n),y∈H.live:=λy hy=>hin y (zH.1 hy).1;have hn':((b.filter λy=>!(y.1==n)).map (·.1)).Nodup:=hn.sublist (List.filter_sublist.map _);have hrest:=(Uh (f:=λe:Int×Bk=>sz0 e.2) (c:=270000) λe he=>WiU hi (G e he)).1;have hall:=(Uh (l:=H.live) (f:=λe:Int×Bk=>sz0 e.2) (c:=270000) λe he=>WiU hi he).2;have hst:(H.live.map λe:Int×Bk=>sz0 e.2).sum=Hz H.live:=rfl;have hx0:=WiU hi hl;rw[hst]at hall;obtain⟨rs,hrs⟩:∃rs,((b.filter λy=>!(y.1==n)).map λe:Int×Bk=>sz0 e.2).sum=rs:=⟨_,rfl⟩;have hdel':(b.map λe:Int×Bk=>sz0 e.2).sum=sz0 x+rs:=by rw[←hrs];exact hdel
   have hz':z+(b.map λe:Int×Bk=>sz0 e.2).sum=Hz H.live:=hz;rw[hrs]at hrest;have V:∀y:Int,y+rs=Hz H.live->y+((b.filter λy=>!(y.1==n)).map λe:Int×Bk=>sz0 e.2).sum=Hz H.live:=λy hy=>by rw[hrs];exact hy
   refine nw (cs:=[.int .i64 0,.int .i64 0,.int .i64 0,.int .i64 0]) λv2 hzv e2 b2=>b2.s1 aA λv3 o3 b3=>b3.s1 aA λv4 o4 b4=>b4.s1 aA λv5 o5 b5=>b5.s1 aA λv6 o6 b6=>?_;have Z:Ext0 w2 v6:=Ext.fresh (Ext.fresh (Ext.fresh (Ext.fresh e2 o3.ext λi hi=>O) o4.ext λi hi=>O) o5.ext λi hi=>O) o6.ext λi hi=>by omega
   have B6:=B2.fr Z;refine b6.rI rfl (ifD (λhpos=>B6.rd rfl (b6.rI rfl ?_)) λhneg=>?_)
   ·have hs:sz0 x=x.2.1:=by unfold sz0;exact zB hpos
    have hx1:0<=x.2.1/\x.2.1<=270000:=by rw[←hs];exact hx0
    refine ar O O (B6.st O λv7 e7 B7=>hJ1 v7 ?_ ?_ ⟨z+x.2.1,B7,hn',G,O,V _ O⟩)
    ·rw[e7.2 _ (by have:=Z.1;omega) (λ(N:w.size=d)=>O),Z.2 _ O id]
    ·rw[e7.2 _ (by have:=Z.1;omega) (λ(N:L.lm=d)=>by have:=B6.h2;omega),Z.2 _ O id]
   ·have hs:sz0 x=0:=by unfold sz0;exact zA hneg
    refine hJ1 v6 (Z.2 _ O id) (Z.2 _ O id) ⟨z,B6,hn',G,hz0,V _ O⟩
 ·have hS:SpH3 v F L.hs H.sp:=hv.spS;have fin:∀w d,Ext0 v w->Blk w d V1->v.size<=d->St1 (Addr.add ⟨d,0,none⟩ 0) (.int .i64 0) w λv57=>St1 (Addr.add ⟨d,0,none⟩ 1) (.int .i64 0) v57 λv58=>St1 (Addr.add ⟨d,0,none⟩ 2) (.int .i64 0) v58 λv59=>St1 (Addr.add ⟨d,0,none⟩ 3) (.int .i64 0) v59 λv60=>
   St1 (Addr.add ⟨d,0,none⟩ 4) (.int .i64 0) v60 λv61=>St1 (Addr.add ⟨d,0,none⟩ 5) (.int .i64 0) v61 λv62=>St1 (Addr.add ⟨d,0,none⟩ 6) (.int .i64 0) v62 λv63=>St1 (Addr.add ⟨d,0,none⟩ 7) (.int .i64 0) v63 λv64=>
   St1 (Addr.add ⟨d,0,none⟩ 8) (.int .i64 0) v64 λv65=>St1 (Addr.add ⟨d,0,none⟩ 9) (.int .i64 M) v65 λv66=>St1 (Addr.add ⟨d,0,none⟩ 10) (.int .i64 D) v66 λv67=>J ⟨d,0,none⟩ v67:=λw d r bw hsb=>by
   have hv1:=hb.lt;refine st11 bw 0 0 0 0 0 0 0 0 0 M D λw' e' b'=>hJ _ w' ⟨d,rfl,Ext.fresh (e.trans r) e' (λi (hi:i=d)=>O),e'.blk (r.blk hb id) (λ(N:σ.size=d)=>O),b',zC _,O,O,rfl⟩
  refine⟨λm=>Ext0 v m,Ext.refl _ _,nilP (Blk.rH (c:=.p) (y:=some ⟨L.hs,0,none⟩) hv.hd rfl (nilP (Blk.rH (c:=.p) (y:=some ⟨L.hs,0,none⟩) hv.hd rfl ⟨?_,?_⟩)))⟩
  ·refine Wd5 hS ⟨Ext.refl _ _,Wco hS ⟨Ext.refl _ _,?_⟩,?_⟩
   ·rw[hm0,hd0];exact nw (cs:=V1) λw hzw r bw=>⟨r,fin w _ r bw (zC _)⟩
   ·refine nw (cs:=V1) λw hzw r bw=>⟨r,Wco (hv.keep0 r).spS ⟨r,?_⟩⟩;rw[hm0,hd0];exact fin w _ r bw (zC _)
  ·refine nw (cs:=V1) λw hzw r bw=>⟨r,Wd5 (hv.keep0 r).spS ⟨r,Wco (hv.keep0 r).spS ⟨r,?_⟩⟩⟩;rw[hm0,hd0];exact fin w _ r bw (zC _)
end Go.Ar
namespace Go.Ar
open Go.Vc (mget mset mdel)
def i63 (x:Int):Bool:=decide (x<=9223372036854775807)
def Wbn (H:Hw)(t:Nat):Ph->Bool
 | .take k=>decide (k<H.tb.length)&&(match Kb (H.cls k) ((H.thr t).li k)with
  | (some y,_)=>i63 y
  | (none,_)=>true)
 | .transfer k _=>decide (k<H.tb.length)&&(Z7 (H.arn t) (k:Int) != 0 || !(YK (H.arn t) (k:Int)).isEmpty)
 | .central _ _=>true
 | .grow _ _=>true
 | .fill=>match (H.thr t).hands with
  | (k,x::xs)::_=>decide (k<H.tb.length)&&(i63 x&&decide (((H.thr t).li k).os.length+xs.length<=256))
  | _=>false
 | .large m=>decide (Z5 (H.arn t) H.sp (m:Int) 1<=1000000)
 | .find x=>i63 x&&((mget H.live x).isSome&&decide (0<=x))
 | .put k _=>decide (k<H.tb.length) && !(H.thr t).hands.isEmpty
 | .back=>match (H.thr t).hands with
  | (_,xs)::_=>(xs.all λx=>i63 x&&decide (0<=YJ H.ars x))&&decide (xs.length<=1000000)
  | _=>false
 | .give _ a=>decide (0<=a)&&(decide (a.toNat<H.ars.length)&&H.ars.all λA=>A.runs.all λr=>decide (r.1<=1000000))
 | .drain=>true
theorem Wft {x:Int}(h:i63 x=true):I63 x:=by
 unfold i63 at h;unfold I63;exact zBZ h
theorem Wku {H:Hw}{t:Nat}{p:Ph}(h:Wbn H t p=true):WgX H t p:=by
 cases p with
 | take k=>
  simp only[Wbn,zF,zS]at h;refine⟨h.1,λy l i=>?_⟩;have e:=h.2;rw[i]at e;exact Wft e
 | transfer k w=>
  simp only[Wbn,zF,zS,zBM]at h;refine⟨h.1,λj d=>?_⟩;rw[j,d]at h;simp at h
 | central k w=>trivial
 | grow k w=>trivial
 | fill=>
  simp only[Wbn]at h;split at h
  ·rename_i k x xs r hh;simp only[zF,zS]at h;exact⟨k,x,xs,r,hh,h.1,Wft h.2.1,h.2.2⟩
  ·cases h
 | large m=>
  simp only[Wbn,zS]at h;exact h
 | find x=>
  simp only[Wbn,zF,zS]at h;exact⟨Wft h.1,λu=>by rw[u]at h;simp at h,λb _=>h.2.2⟩
 | put k x=>
  simp only[Wbn,zF,zS]at h;exact⟨h.1,λd=>by rw[d]at h;simp at h⟩
 | back=>
  simp only[Wbn]at h;split at h
  ·rename_i k xs r hh;simp only[zF,zS,zAB]at h;exact⟨k,xs,r,hh,λx g=>⟨Wft (h.1 x g).1,(h.1 x g).2⟩,h.2⟩
  ·cases h
 | give s a=>
  simp only[Wbn,zF,zS,zAB]at h;exact⟨h.1,h.2.1,h.2.2⟩
 | drain=>trivial
def runB:Nat->Hw->Nat->Ph->Option (Hw×Int×Int)
 | 0,_,_,_=>none
 | n+1,H,t,p=>if Wbn H t p&&decide ((H.thr t).hands.length<=900)then(match (Wt H t p).2.1 with
  | none=>some (QO H t p,(Wt H t p).2.2.1,(Wt H t p).2.2.2)
  | some p'=>runB n (QO H t p) t p')else none
theorem Who:∀{n:Nat} {H:Hw} {t:Nat} {p:Ph} {r:Hw×Int×Int},runB n H t p=some r->∃m,RunN m H t p r.1 r.2.1 r.2.2
 | 0,_,_,_,_,h=>by simp[runB]at h
 | n+1,H,t,p,r,h=>by
  rw[runB]at h;split at h
  ·rename_i hc;simp only[zF,zS]at hc;have hok:Wb2 H t p:=⟨Wku hc.1,λg b=>by rw[←GK b];exact hc.2⟩;split at h
   ·rename_i hn;cases h;exact⟨1,.done hok hn⟩
   ·rename_i p' hs;obtain⟨m,a⟩:=Who h;exact⟨m+1,.next hok hs a⟩
  ·cases h
def Wfs (H:Hw)(thread kind size align addr:Int):Option (Hw×Int×Int):=match KH H thread kind size align addr with
 | .inl e=>if e=0 then none else some (H,0,e)
 | .inr (t,p)=>runB 40 (setPh H t (some p)) t p
theorem Wjy {H:Hw}{thread kind size align addr:Int}{r:Hw×Int×Int}(h:Wfs H thread kind size align addr=some r):U2 H thread kind size align addr r.1 r.2.1 r.2.2:=by
 unfold Wfs at h;split at h
 ·rename_i e he;split at h
  ·cases h
  ·rename_i hne;cases h;exact .inl ⟨he,hne,rfl,rfl⟩
 ·rename_i t p he;obtain⟨m,a⟩:=Who h;exact .inr ⟨t,p,m,he,a⟩
def tb8:List Cls:=(WcM 8).map ZV
def w0:Hw:=Ue tb8 ⟨64,1,1,1024,2⟩
def nxt (H:Hw)(kind size addr:Int):Hw×Int×Int:=(Wfs H 0 kind size (if kind=0 then 8 else 0) addr).getD (H,0,99)
theorem WoF {H:Hw}{kind size addr:Int}(h:(nxt H kind size addr).2.2≠99):U2 H 0 kind size (if kind=0 then 8 else 0) addr (nxt H kind size addr).1 (nxt H kind size addr).2.1 (nxt H kind size addr).2.2:=by
 unfold nxt at *;cases hw:Wfs H 0 kind size (if kind=0 then 8 else 0) addr with
 | none=>rw[hw]at h;exact absurd rfl h
 | some r=>exact Wjy hw
theorem nxtW {H:Hw}{kind size addr al a e:Int}{N:Hw×Int×Int}(hN:N=nxt H kind size addr)(h:N.2=(a,e))(hne:e≠99)(hal:al=if kind=0 then 8 else 0):U2 H 0 kind size al addr N.1 a e:=by
 have b:=WoF (H:=H) (kind:=kind) (size:=size) (addr:=addr) (by rw[←hN,h];exact hne);rw[←hN,h,←hal]at b;exact b
theorem w0_e:Ue ((WcM 8).map ZV) ⟨(64:Int).toNat,(1:Int).toNat,(1:Int).toNat,(1024:Int).toNat,(2:Int).toNat⟩=w0:=rfl
end Go.Ar
namespace Go.Ar
open Go Go.Vc Go.Proofs
variable {σ u u':Hp}{F:Rg}{L:LayH}{H H':Hw}{N:Nat}
attribute [local irreducible] w0 nxt tb8
theorem Wln (g:Gl σ)(gd:Gd σ){R:Option Addr->Hp->Prop}(hR:∀σ' L N,Ext0 σ σ'->σ.size<=N->N<=σ'.size->HH σ' (λb=>N<=b) L w0->R (some ⟨L.p,0,none⟩) σ'):XF.c σ R:=by
 refine XF.o ?_;unfold XF.v;refine Wu.o ?_;unfold Wu.v;refine nw (cs:=[.int .i64 8,.int .i64 64,.int .i64 1,.int .i64 1,.int .i64 1024,.int .i64 2]) λv A e j=>j.rI rfl ?_;refine Whc 8 aB aB λs x u z=>?_;have a:=u.blk j id;have d:=e.trans u;refine a.rI2 rfl (a.rI2 rfl (a.rI2 rfl (a.rI2 rfl (a.rI2 rfl ?_))));refine Wd9 z (g.keep0 d) (gd.keep0 d) 64 1 1 1024 2 (λm=>?_) (λ_ y=>?_) λ_ _ w L r i=>?_
 ·have:=Gg 8 aB aB;rw[show((8:Nat):Int)=8 from rfl]at this;rw[this]at m;cases m
 ·exact absurd y aB
 ·rw[w0_e]at i;exact ifF rfl (hR w L x.size (d.trans r) d.1 r.1 i)
end Go.Ar
namespace Go.Proofs
open Go.Vc
set_option maxRecDepth 100000
def Qf.h:Hn:=.q .o2 (.q (.q .o3 .aJ) (.q (.q (.reg (.seq [.op,.op,.op,.grd false 2 [.op,.op],.op,.grd false 2 [.op,.op],.op,.grd false 2 [.op,.op],.op,.grd false 5 (RI.ops 5)])) .aJ) (.q .o9 (.q (.q .o2 (.c (.q .o9 .l) .l)) (.q .o10 (.q .o10 (.q (.oq 16) .l)))))))
def Qf.v (a:Sl)(b c:Int)(d:Hp)(e:Int->Int->Hp->Prop):Prop:=ZG.c a d λf g=>If (!f) (e 0 2 g) (JnB (λh i=>JnB (λj k=>JnB (λl m=>JnB (λn o=>If n (e 0 1 o) (Z0.c a b c o λp q r=>If (q != 0) (bL (b+256) λs=>bL (s-1) λt=>Nz 256<|bL (t.tdiv 256) λu=>bL (u*256) λv=>bL (v-b) λw=>e w 0 r) (Ix a.a a.len p 3 λx=>aQ x 0 r λy=>aQ x 1 r λz=>aQ x 2 r λaa=>Ze.c y z aa r λab ac ad=>Ix a.a a.len p 3 λae=>aQ ae 0 ad λaf=>aQ ae 1 ad λag=>aQ ae 2 ad λah=>Qo.c af ag ah ad λai aj ak=>Ix a.a a.len p 3 λal=>aQ al 0 ak λam=>bL (am-b) λan=>bL (ai+ab) λao=>bL (ao-1) λap=>Nz ab<|bL (ap.tdiv ab) λaq=>bL (an+aq) λar=>e ar 0 ak))) λau=>If l (au true m) (bL (c-1) λav=>au ((bits .and .i64 c av) != 0) m)) λaw=>If j (aw true k) (aw (decide (c>256)) k)) λax=>If h (ax true i) (ax (decide (c<1)) i)) λay=>If (b<1) (ay true g) (ay (decide (b>16384)) g))
theorem Qf.o {a b c d e}(f:Qf.v a b c d e):Qf.c a b c d e:=Wa Tryz.func14 (x:=Qf.h) (R0 f)
def QI.h:Hn:=.q .o2 (.q (.q .o3 .aJ) (.q .o6 .l))
def QI.v (a:R2)(b:Hp)(c:Option Addr->Int->Hp->Prop):Prop:=QB.c a b λd e=>If (!d) (c none 1 e) (Nw (.map #[] 0) e λf g=>aV #[.pointer a,.map (some f.block),.I 0,.I 0,.I 0,.I 0,.I 0,.I 0] 38 g λh i=>c (some h) 0 i)
theorem QI.o {a b c}(d:QI.v a b c):QI.c a b c:=Wa Tryz.func19 (x:=QI.h) (R0 d)
def XD.h:Hn:=.q .o2 (.q (.q .o3 .aJ) (.q (.o 13) (.sjn [] (.q .o2 (.c (.q .o3 (.q .o7 .o9)) .l)) (.q .o6 (.q .o4 .l)))))
def XD.v (a:R2)(b c d:Int)(e:Hp)(f:Int->Int->Hp->Prop):Prop:=Xs.c a e λg h=>If (!g) (f 0 5 h) (NilP a λi=>aY i 0 h λj=>Yh.c j b c d h λk l m=>Jn [] (λn=>NilP a λo=>XP.c a l (some (o.add 5)) n λp=>f k l p) λq=>If (l==0) (XC.c a k m λr=>bI a 1 r λt=>MSet .i64 bN t k c r λu=>bD a 2 u λw=>bL (w+c) λx=>NilP a λy=>aR y 2 (.I x) u λz=>q z) (q m))
theorem XD.o {a b c d e f}(g:XD.v a b c d e f):XD.c a b c d e f:=Wa Tryz.func20 (x:=XD.h) (R0 g)
def Zc.h:Hn:=.q .o1 (.q (.q .o3 .aK) (.q .o8 (.sjn [] (.q .o2 (.c .o3 .l)) (.q .o6 .aL))))
def Zc.v (a:R2)(b c:Int)(d:Hp)(e:aN):Prop:=Xs.c a d λf g=>If (!f) (e 5 g) (bF a 0 g λi=>Zn.c i b c g λj k=>Jn [] (λl=>NilP a λm=>XP.c a j (some (m.add 6)) l λn=>e j n) λo=>If (j==0) (XC.c a c k λp=>o p) (o k))
theorem Zc.o {a b c d e}(f:Zc.v a b c d e):Zc.c a b c d e:=Wa Tryz.func23 (x:=Zc.h) (R0 f)
def Xh.h:Hn:=.q .o1 (.q (.q .o3 .aJ) (.q .o7 (.q (.reg (.held true [47] (.tk [0,1,2,3,4,5,6,7,10,11,12,13,14,15,16,17,18,19,20,21,22,23,24,25,26,27,28,29,30,31,32,33,34,35,36,37,38,39,40,41,42,43,44,45] (.all [(8,.all [(9,.take 46 (.all [(47,.done)]))])])))) .l)))
def Xh.v (a:R2)(b:Hp)(c:Int->Int->Int->Int->Int->Int->Int->Int->Int->Int->Hp->Prop):Prop:=aV #[.I 0,.I 0,.I 0,.I 0,.I 0,.I 0,.I 0,.I 0,.I 0,.I 0] 56 b λd e=>Xs.c a e λf g=>If (!f) (aR d 0 (.I 0) g λh=>aR d 1 (.I 0) h λi=>aR d 2 (.I 0) i λj=>aR d 3 (.I 0) j λk=>aR d 4 (.I 0) k λl=>aR d 5 (.I 0) l λm=>aR d 6 (.I 0) m λn=>aR d 7 (.I 0) n λo=>aR d 8 (.I 0) o λp=>aR d 9 (.I 0) p λq=>aQ d 0 q λr=>aQ d 1 q λs=>aQ d 2 q λt=>aQ d 3 q λu=>aQ d 4 q λv=>aQ d 5 q λw=>aQ d 6 q λx=>aQ d 7 q λy=>aQ d 8 q λz=>aQ d 9 q λaa=>c r s t u v w x y z aa q) (bF a 0 g λac=>YU.c ac g λad ae af ag ah ai aj ak al am an ao=>aV #[.I 0,.I 0,.I 0,.I 0,.I 0,.I 0,.I 0,.I 0,.I 0,.I 0,.I 0] 89 ao λap aq=>aR ap 0 (.I ad) aq λar=>aR ap 1 (.I ae) ar λau=>aR ap 2 (.I af) au λav=>aR ap 3 (.I ag) av λaw=>aR ap 4 (.I ah) aw λax=>aR ap 5 (.I ai) ax λay=>aR ap 6 (.I aj) ay λaz=>aR ap 7 (.I ak) az λa0=>aR ap 8 (.I al) a0 λa1=>aR ap 9 (.I am) a1 λa2=>aR ap 10 (.I an) a2 λa3=>Held a3 λa4=>NilP a λa5=>aS a4 a5 2 λa6=>NilP a λa7=>aU a4 a7 0 λa8=>aS a4 ap 1 λa9=>aS a4 ap 2 λba=>bL (a9+ba) λbb=>
 aS a4 ap 3 λbc=>bL (bb+bc) λbd=>aS a4 ap 4 λbe=>bL (bd+be) λbf=>aS a4 ap 5 λbg=>aS a4 ap 8 λbh=>bL (bh*256) λbi=>NilP a λbj=>aS a4 bj 3 λbk=>NilP a λbl=>aS a4 bl 4 λbm=>NilP a λbn=>aS a4 bn 5 λbo=>NilP a λbp=>aS a4 bp 6 λbq=>NilP a λbr=>aS a4 br 7 λbs=>Y8.c a8 a3 λbt bu=>And (a4 bu) <| Xb.c bt ⟨60,#[],#[]⟩ bu λbv bw=>And (a4 bw) <| aR d 0 (.I a6) bw λbx=>aR d 1 (.I bv) bx λbz=>aR d 2 (.I bf) bz λb0=>aR d 3 (.I bg) b0 λb1=>aR d 4 (.I bi) b1 λb2=>aR d 5 (.I bk) b2 λb3=>aR d 6 (.I bm) b3 λb4=>aR d 7 (.I bo) b4 λb5=>aR d 8 (.I bq) b5 λb6=>aR d 9 (.I bs) b6 λb7=>aQ d 0 b7 λb8=>aQ d 1 b7 λb9=>aQ d 2 b7 λca=>aQ d 3 b7 λcb=>aQ d 4 b7 λcc=>aQ d 5 b7 λcd=>aQ d 6 b7 λce=>aQ d 7 b7 λcf=>aQ d 8 b7 λcg=>aQ d 9 b7 λch=>c b8 b9 ca cb cc cd ce cf cg ch b7)
theorem Xh.o {a b c}(d:Xh.v a b c):Xh.c a b c:=Wa Tryz.func24 (x:=Xh.h) (R0 d)
def YF.h:Hn:=.q .o1 (.q (.q .o3 .aK) (.q .o6 (.q .o2 (.q (.q .o7 (.k (.loop [(29,.I)] (.q .o1 (.q (.c .l .l) (.q (.k (.q .o4 (.q .o6 (.q .o4 (.q .o5 (.q .o7 (.q (.reg (.tail 11 (RI.ops 11) [.op])) .o5))))))) .o2)))))) (.q .o1 (.q (.q .o1 (.k (.loop [(8,.one .s),(9,.I)] (.q (.q .o4 (.c .l .l)) (.q (.k (.q .o9 (.q (.q .o2 (.c .l .l)) (.sjn [] (.q .o2 (.c (.q .o10 (.reg (.held true [13,15] (.tk [0,1,2,3,4,5,6,7,8,9,10,11,12] (.all [(13,.take 14 (.all [(15,.done)]))]))))) .l)) .o5)))) .o3))))) .aL))))))
def YF.v (a:R2)(b:Hp)(c:Sl->Hp->Prop):Prop:=Xs.c a b λd e=>If (!d) (c ⟨none,0,0⟩ e) (bF a 0 e λg=>YS.c g e λh i=>Nw (.map #[] 0) i λj k=>bF a 0 k λm=>Y8.c m k λn o=>W7 [bN] (λp=>p 0 o) λq (r:Int) s=>If (r<((n.len:Nat):Int)) (Ix n.a n.len r 4 λt=>aQ t 0 s λu=>aQ t 1 s λv=>aQ t 2 s λw=>aQ t 3 s λx=>aV #[.I 0,.I 0,.I 0,.I 0] 76 s λy z=>aR y 0 (.I u) z λaa=>aR y 1 (.I v) aa λab=>aR y 2 (.I w) ab λac=>aR y 3 (.I x) ac λad=>aQ y 2 ad λae=>Lk .i64 (.ag 6) (some j.block) ae ad λaf=>aV #[.I 0,.I 0,.I 0,.I 0,.I 0,.I 0] 80 ad λag ah=>aR ag 0 (.I ((af.getD (0,0,0,0,0,0)).1)) ah λai=>aR ag 1 (.I ((af.getD (0,0,0,0,0,0)).2.1)) ai λaj=>aR ag 2 (.I ((af.getD (0,0,0,0,0,0)).2.2.1)) aj λak=>aR ag 3 (.I ((af.getD (0,0,0,0,0,0)).2.2.2.1)) ak λal=>aR ag 4 (.I ((af.getD (0,0,0,0,0,0)).2.2.2.2.1)) al λam=>aR ag 5 (.I ((af.getD (0,0,0,0,0,0)).2.2.2.2.2)) am λan=>aQ y 2 an λao=>aR ag 0 (.I ao) an λap=>aQ ag 2 ap λaq=>bL (aq+1) λar=>aR ag 2 (.I ar) ap λau=>aQ ag 3 au λav=>aQ y 1 au λaw=>bL (av+aw) λax=>aR ag 3 (.I ax) au λay=>aQ ag 4 ay λaz=>bI a 1 ay λa1=>aQ y 0 ay λa2=>Lk .i64 bN a1 a2 ay λa3=>bL (az+(a3.getD 0)) λa4=>
 aR ag 4 (.I a4) ay λa5=>aQ y 2 a5 λa6=>aQ ag 0 a5 λa7=>aQ ag 1 a5 λa8=>aQ ag 2 a5 λa9=>aQ ag 3 a5 λba=>aQ ag 4 a5 λbb=>aQ ag 5 a5 λbc=>MSet .i64 (.ag 6) (some j.block) a6 (a7,a8,a9,ba,bb,bc) a5 λbd=>bL (r+1) λbe=>q be bd) (W7 [.s,bN] (λbf=>bf ⟨none,0,0⟩ (-1) s) λbg (bh:Sl) (bi:Int) bj=>If (bi<((h.len:Nat):Int)) (Lk .i64 (.ag 6) (some j.block) bi bj λbk=>aV #[.I 0,.I 0,.I 0,.I 0,.I 0,.I 0] 80 bj λbl bm=>aR bl 0 (.I ((bk.getD (0,0,0,0,0,0)).1)) bm λbn=>aR bl 1 (.I ((bk.getD (0,0,0,0,0,0)).2.1)) bn λbo=>aR bl 2 (.I ((bk.getD (0,0,0,0,0,0)).2.2.1)) bo λbp=>aR bl 3 (.I ((bk.getD (0,0,0,0,0,0)).2.2.2.1)) bp λbq=>aR bl 4 (.I ((bk.getD (0,0,0,0,0,0)).2.2.2.2.1)) bq λbr=>aR bl 5 (.I ((bk.getD (0,0,0,0,0,0)).2.2.2.2.2)) br λbs=>If (!bk.isSome) (bL (bi+1) λbt=>bg bh bt bs) (Jn [] (λbu=>aQ bl 0 bu λbv=>aQ bl 1 bu λbw=>aQ bl 2 bu λbx=>aQ bl 3 bu λbz=>aQ bl 4 bu λb0=>aQ bl 5 bu λb1=>aV #[.I bv,.I bw,.I bx,.I bz,.I b0,.I b1] 80 bu λb2 b3=>App bh 6 48 80 [.I 0,.I 0,.I 0,.I 0,.I 0,.I 0] ⟨some b2,1,1⟩ b3 λb4 b5=>bL (bi+1) λb6=>bg b4 b6 b5) λb7=>If (bi≥0) (Ix h.a h.len bi 3 λb8=>aQ b8 0 bs λb9=>aQ b8 1 bs λca=>aQ b8 2 bs λcb=>Ze.c b9 ca cb bs λcc cd ce=>Held ce λcf=>
 Ix h.a h.len bi 3 λcg=>aS cf cg 0 λch=>aS cf bl 2 λci=>bL (ci+cc) λcj=>bL (cj-1) λck=>Nz cc<|bL (ck.tdiv cc) λcl=>aR bl 1 (.I ch) ce λcm=>aR bl 5 (.I cl) cm λcn=>b7 cn) (b7 bs))) (c bh bj)))
theorem YF.o {a b c}(d:YF.v a b c):YF.c a b c:=Wa Tryz.func25 (x:=YF.h) (R0 d)
def QB.h:Hn:=.q .o1 (.q (.reg (.seq [.op,.op,.op,.grd true 4 (RI.ops 4),.op])) .l)
def QB.v (a:R2)(b:Hp)(c:aO):Prop:=JnB (λd e=>c d e) λf=>If (!a.isNone) (Zd.c a b λg h i j k l=>f (decide (g>0)) l) (f false b)
theorem QB.o {a b c}(d:QB.v a b c):QB.c a b c:=Wa Tryz.func50 (x:=QB.h) (R0 d)
def Xs.h:Hn:=.q .o1 (.q (.reg (.seq [.op,.op,.op,.grd true 5 (RI.ops 5),.op])) .l)
def Xs.v (a:R2)(b:Hp)(c:aO):Prop:=JnB (λd e=>c d e) λf=>If (!a.isNone) (bF a 0 b λh=>f (!h.isNone) b) (f false b)
theorem Xs.o {a b c}(d:Xs.v a b c):Xs.c a b c:=Wa Tryz.func51 (x:=Xs.h) (R0 d)
def XC.h:Hn:=.q (.reg (.tail 13 (RI.ops 13) [.op])) .o6
def XC.v (a:R2)(b:Int)(c:Hp)(d:aP):Prop:=bD a 2 c λf=>bI a 1 c λh=>Lk .i64 bN h b c λi=>bL (f-(i.getD 0)) λj=>NilP a λk=>aR k 2 (.I j) c λl=>bI a 1 l λn=>MDel .i64 bN n b l λo=>d o
theorem XC.o {a b c d}(e:XC.v a b c d):XC.c a b c d:=Wa Tryz.func53 (x:=XC.h) (R0 e)
def XP.h:Hn:=.sjn [] (.q .o2 (.c .o6 .o8)) (.q (.reg (.tail 12 (RI.ops 12) [.op])) (.reg (.held true [15] (.tk [0,1,2,3,4,5,6,7,8] (.all [(9,.tk [10,11,12,13,14] (.all [(15,.done)]))])))))
def XP.v (a:R2)(b:Int)(c:R2)(d:Hp)(e:aP):Prop:=Jn [] (λf=>bD a 3 f λh=>bD a 2 f λj=>NilP a λk=>aR k 3 (.I (if j>h then j else h)) f λl=>Held l λm=>NilP a λn=>aS m n 4 λo=>NilP a λp=>aU m p 0 λq=>YU.c q l λr s t u v w x y z aa ab ac=>And (m ac) <| bL (ab*256) λad=>NilP a λae=>aR ae 4 (.I (if ad>o then ad else o)) ac λaf=>e af) λag=>If (b==0) (NilP c λah=>bM ah d λai=>bL (ai+1) λaj=>NilP c λak=>St1 ak (.I aj) d λal=>ag al) (bD a 7 d λan=>bL (an+1) λao=>NilP a λap=>aR ap 7 (.I ao) d λaq=>ag aq)
theorem XP.o {a b c d e}(f:XP.v a b c d e):XP.c a b c d e:=Wa Tryz.func54 (x:=XP.h) (R0 f)
def Xb.h:Hn:=.q .o1 (.q .o1 (.q (.q .o3 (.k (.loop [(5,.I),(10,.I)] (.q .o1 (.q (.c .l .l) (.q (.k (.q .o4 .o6)) .o2)))))) .aL))
def Xb.v (a:Sl)(b:Fv)(c:Hp)(d:aN):Prop:=W7 [bN,bN] (λe=>e 0 0 c) λf (g:Int) (h:Int) i=>If (h<((a.len:Nat):Int)) (Ix a.a a.len h 4 λj=>aQ j 0 i λk=>aQ j 1 i λl=>aQ j 2 i λm=>aQ j 3 i λn=>aV #[.I 0,.I 0,.I 0,.I 0] 76 i λo p=>aR o 0 (.I k) p λq=>aR o 1 (.I l) q λr=>aR o 2 (.I m) r λs=>aR o 3 (.I n) s λt=>aQ o 0 t λu=>aQ o 1 t λv=>aQ o 2 t λw=>aQ o 3 t λx=>VR Tryz.prog b [.agg #[.I u,.I v,.I w,.I x]] [.I] t λy z=>bL (g+y) λaa=>bL (h+1) λab=>f aa ab z) (d g i)
theorem Xb.o {a b c d}(e:Xb.v a b c d):Xb.c a b c d:=Wa Tryz.func59 (x:=Xb.h) (R0 e)
def XI.h:Hn:=.q .o2 (.q .o3 .l)
def XI.v (a b c d:Int)(e:Hp)(f:aN):Prop:=aV #[.I a,.I b,.I c,.I d] 76 e λg h=>aQ g 1 h λi=>f i h
theorem XI.o {a b c d e f}(g:XI.v a b c d e f):XI.c a b c d e f:=Wa Tryz.func60 (x:=XI.h) (R0 g)
end Go.Proofs
namespace Go.Ar
open Go Go.Vc Go.Proofs
open Go.Vc (mget mset mdel)
open Go.Bu (cnt)
variable {σ σ0 v w w':Hp}{F P Q X T:Rg}{L:LayH}{H H':Hw}{held:List Pc}{s0:Sp}{t n:Nat}{g:Th}{mb am m:Nat}
structure Me where
 asked:List (Int×Int)
 sum:Int
 peak:Int
 dirty:Int
 mallocs:Nat
 frees:Nat
 fails:Nat
def Me.calls (x:Me):Nat:=x.mallocs+x.frees+x.fails
structure MeI (x:Me):Prop where
 v:∀y∈x.asked,0<=y.2/\y.2<=16384
 l:x.asked.length<=x.mallocs
 s:x.sum=(x.asked.map (·.2)).sum
 p:0<=x.peak/\x.peak<=16384000
 d:0<=x.dirty/\x.dirty<=1000000
 c:x.calls<=900
def me0:Me:=⟨[],0,0,0,0,0,0⟩
theorem WnW:MeI me0:=⟨by simp[me0],by simp[me0],rfl,by simp[me0],by simp[me0],by simp[me0,Me.calls]⟩
def Me.forget (x:Me)(a:Int):Me:={x with asked:=mdel x.asked a,sum:=x.sum-(mget x.asked a).getD 0}
def Me.add (x:Me)(a size:Int):Me:={x with asked:=mset x.asked a size,sum:=x.sum+size}
def Me.count (x:Me)(e:Int)(mal:Bool):Me:=if e=0 then(if mal then{x with mallocs:=x.mallocs+1}else{x with frees:=x.frees+1})else{x with fails:=x.fails+1}
def Me.tops (x:Me)(D:Int):Me:={x with peak:=if x.sum>x.peak then x.sum else x.peak,dirty:=if D*256>x.dirty then D*256 else x.dirty}
theorem MeI.sum_le {x:Me}(h:MeI x):0<=x.sum/\x.sum<=14745600:=by
 have a:=Uh (l:=x.asked) (f:=λy:Int×Int=>y.2) (c:=16384) h.v;have d:=h.l;have b:=h.c;unfold Me.calls at b;rw[h.s];exact⟨a.1,by have:=a.2;omega⟩
def meV (hp am:Nat)(x:Me):List Value:=[.pointer (some ⟨hp,0,none⟩),.map (some am),.int .i64 x.sum,.int .i64 x.peak,.int .i64 x.dirty,.int .i64 (x.mallocs:Int),.int .i64 (x.frees:Int),.int .i64 (x.fails:Int)]
structure MP (σ0 σ:Hp) (L:LayH) (H:Hw) (held:List Pc) (s0:Sp) (P:Rg) (mb am:Nat) (x:Me):Prop where
 e:Ext0 σ0 σ
 h:HH σ P L H
 hi:HI H held s0
 cf:CfOk H
 ph:∀g∈H.ths,g.ph=none
 pg:H.cf.pages<=128
 pP:∀b,P b->σ0.size<=b/\b<σ.size
 mb1:σ0.size<=mb/\¬P mb
 am1:σ0.size<=am/\¬P am
 ne:mb≠am
 b:Blk σ mb (meV L.p am x)
 m:MapL σ am .i64 bN x.asked
 g0:Off (λb=>σ0.size<=b)/\¬σ0.size<=1
variable {x y:Me}
theorem MP.fr (p:MP σ0 σ L H held s0 P mb am x)(e:Ext0 σ w):MP σ0 w L H held s0 P mb am x:=
 ⟨p.e.trans e,p.h.keep0 e,p.hi,p.cf,p.ph,p.pg,λb a=>⟨(p.pP b a).1,by have:=(p.pP b a).2;have:=e.1;omega⟩,p.mb1,p.am1,p.ne,e.blk p.b id,e.mapL p.m id,p.g0⟩
theorem MP.out (p:MP σ0 σ L H held s0 P mb am x)(e:Ext T σ w)(hT:∀b,b<σ.size->T b->¬P b/\b≠mb/\b≠am/\σ0.size<=b):MP σ0 w L H held s0 P mb am x:=by
 have s:=e.1;have a:=p.b.lt;have i:=p.m.lt;have g:Ext (λb=>T b/\b<σ.size) σ w:=⟨e.1,λb a j=>e.2 b a λd=>j ⟨d,a⟩⟩;refine⟨Ext.newT p.e g λb a=>.inr (hT b a.2 a.1).2.2.2,p.h.keep g (λb a r d=>(hT b a d.1).1 r) (λb a=>?_) (λa=>?_),p.hi,p.cf,p.ph,p.pg,λb a=>⟨(p.pP b a).1,by have:=(p.pP b a).2;omega⟩,p.mb1,p.am1,p.ne,e.blk p.b λd=>(hT mb a d).2.1 rfl,e.mapL p.m λd=>(hT am i d).2.2.1 rfl,p.g0⟩
 ·exact p.g0.1 b (hT b a.2 a.1).2.2.2
 ·exact p.g0.2 (hT _ a.2 a.1).2.2.2
theorem MP.step (p:MP σ0 σ L H held s0 P mb am x){ts':List LayT}(e:Ext P σ w)(h':HH w (Grow P σ) {L with ts:=ts'} H'){held':List Pc}{s0':Sp}(hi':HI H' held' s0')(k:Qc H' H)(ph':∀g∈H'.ths,g.ph=none) :
 MP σ0 w {L with ts:=ts'} H' held' s0' (Cut (Grow P σ) w) mb am x:=by
 have u:=e.1;have a:=p.b.lt;have j:=p.m.lt;have i:∀b,b<σ.size->¬P b->¬Cut (Grow P σ) w b:=λb d r s=>by
  rcases s.1 with h3|h3
  ·exact r h3
  ·omega
 refine⟨Ext.newT p.e e λb a=>.inr (p.pP b a).1,h'.cut,hi',p.cf.keep k,ph',by rw[k.2.1];exact p.pg,λb a=>⟨?_,a.2⟩,⟨p.mb1.1,i mb a p.mb1.2⟩,⟨p.am1.1,i am j p.am1.2⟩,p.ne,e.blk p.b p.mb1.2,e.mapL p.m p.am1.2,p.g0⟩;have:=p.e.1;rcases a.1 with d|d
 ·exact(p.pP b d).1
 ·omega
theorem MP.upd (p:MP σ0 σ L H held s0 P mb am x)(e:Ext (λb=>b=mb\/b=am) σ w)(hb:Blk w mb (meV L.p am y))(hm:MapL w am .i64 bN y.asked):MP σ0 w L H held s0 P mb am y:=by
 have j:=e.1;have a:∀b,(b=mb\/b=am)->σ0.size<=b/\¬P b:=λb hb=>by
  rcases hb with rfl|rfl
  ·exact p.mb1
  ·exact p.am1
 exact⟨Ext.newT p.e e λb hb=>.inr (a b hb).1,p.h.keep e (λb _ d g=>(a b g).2 d) (λb hb=>p.g0.1 b (a b hb).1) (λhb=>p.g0.2 (a _ hb).1),p.hi,p.cf,p.ph,p.pg,λb hb=>⟨(p.pP b hb).1,by have:=(p.pP b hb).2;omega⟩,p.mb1,p.am1,p.ne,hb,hm,p.g0⟩
theorem MP.st (p:MP σ0 σ L H held s0 P mb am x){i:Nat}{u:Value}(hi:i<8)(y:Me)(he:(meV L.p am x).set i u=meV L.p am y)(ha:y.asked=x.asked){K:aP}(hK:∀w,Ext (λb=>b=mb\/b=am) σ w->MP σ0 w L H held s0 P mb am y->K w):St1 (Addr.add ⟨mb,0,none⟩ i) u σ K:=by
 refine p.b.s1 (by simp[meV];omega) λw o b=>?_;have e:Ext (λb=>b=mb\/b=am) σ w:=o.ext.sub λb d=>.inl d;rw[zG,he]at b;exact hK w e (p.upd e b (by rw[ha];exact o.ext.mapL p.m λ(a:am=mb)=>p.ne a.symm))
theorem MP.hands (p:MP σ0 σ L H held s0 P mb am x):∀g∈H.ths,g.hands=[]:=λg b=>by
 have a:=(p.hi.th g b).ph;unfold PhI at a;rw[p.ph g b]at a;exact a
theorem GY (p:MP σ0 σ L H held s0 P mb am x){R:aO}(hR:R true σ):Xs.c (aW mb) σ R:=by
 refine Xs.o ?_;unfold Xs.v;exact JnB.intro (ifT rfl (nilP (p.b.rP rfl hR)))
theorem Wdt (p:MP σ0 σ L H held s0 P mb am x)(mi:MeI x)(a:Int){R:aP}(hR:∀w,Ext (λb=>b=mb\/b=am) σ w->MP σ0 w L H held s0 P mb am (x.forget a)->R w):XC.c (aW mb) a σ R:=by
 refine XC.o ?_;unfold XC.v;have y:=mi.sum_le;have u:0<=(mget x.asked a).getD 0/\(mget x.asked a).getD 0<=16384:=by
  cases hm:mget x.asked a with
  | none=>exact⟨zCH _,by decide⟩
  | some z=>exact mi.v _ (KV hm)
 refine nilP (p.b.rI rfl (nilP (p.b.rM rfl ⟨x.asked,p.m,ar O O (nilP ?_)⟩)));refine p.st O {x with sum:=x.sum-(mget x.asked a).getD 0} rfl rfl λi r d=>nilP (d.b.rM rfl ⟨x.asked,d.m,λw2 o2 _ s=>?_⟩);have o2:=o2 am rfl;have e:Ext (λb=>b=mb\/b=am) i w2:=o2.ext.sub λb g=>.inr g;exact hR w2 (r.trans e) (d.upd e (o2.ext.blk d.b λ(j:mb=am)=>p.ne j) s)
set_option maxRecDepth 8000 in
theorem Wfp (p:MP σ0 σ L H held s0 P mb am x)(hc:x.calls<=899)(e:Int)(mal:Bool){R:aP}(hR:∀w,Ext (λb=>b=mb\/b=am) σ w->MP σ0 w L H held s0 P mb am ((x.count e mal).tops (H.sp.st.count 2:Nat))->R w) :
 XP.c (aW mb) e (some (Addr.add ⟨mb,0,none⟩ (if mal then 5 else 6))) σ R:=by
 refine XP.o ?_;unfold XP.v;unfold Me.calls at hc;refine Wbm (λw=>Ext (λb=>b=mb\/b=am) σ w/\MP σ0 w L H held s0 P mb am (x.count e mal)) (λw ⟨j,d⟩=>?_) λJ u=>?_
 ·generalize hy:x.count e mal=y at d;have F:y.sum=x.sum/\y.peak=x.peak/\y.dirty=x.dirty:=by subst hy;unfold Me.count;split<;>(try split)<;>exact⟨rfl,rfl,rfl⟩
  refine nilP (d.b.rI rfl (nilP (d.b.rI rfl (nilP (d.st O {y with peak:=if y.sum>y.peak then y.sum else y.peak} rfl rfl λK G r=>?_)))))
  refine⟨λm=>Ext0 K m,Ext.refl _ _,nilP (Blk.rH (c:=bN) (y:=y.dirty) r.b rfl (nilP (Blk.rH (c:=.p) (y:=some ⟨L.p,0,none⟩) r.b rfl (Wde r.h r.hi r.hands λQ A _=>⟨A,?_⟩))))⟩;have D:=r.fr A;have M:H.sp.st.count 2<=128:=by
   have S:=zEG (a:=2) (l:=H.sp.st);have N:=p.hi.sl;have U:=p.pg;omega
  refine ar O O (nilP (D.st O (y.tops (H.sp.st.count 2:Nat)) rfl rfl λC E B=>?_));exact hR C (((j.trans G).trans (Ext0.to A)).trans E) (by rw[hy];exact B)
 ·refine ifD (λz=>?_) λz=>?_
  ·have g:e=0:=by simpa using z
   subst g;cases mal with
   | true=>exact nilP (p.b.rI rfl (arN (m:=x.mallocs+1) aA O (nilP (p.st (i:=5) O {x with mallocs:=x.mallocs+1} rfl rfl λs j d=>u s ⟨j,d⟩))))
   | false=>exact nilP (p.b.rI rfl (arN (m:=x.frees+1) aA O (nilP (p.st (i:=6) O {x with frees:=x.frees+1} rfl rfl λs j d=>u s ⟨j,d⟩))))
  ·have g:e≠0:=by simpa using z
   refine nilP (p.b.rI rfl (arN (m:=x.fails+1) aA O (nilP (p.st O {x with fails:=x.fails+1} rfl rfl λs j d=>u s ⟨j,?_⟩))));have:x.count e mal = {x with fails:=x.fails+1}:=by unfold Me.count;exact zA g
   rw[this];exact d
theorem OpOk.rest (o:OpOk H H')(h:∀g∈H.ths,g.ph=none):∀g∈H'.ths,g.ph=none:=λg d=>by
 obtain⟨j,b⟩:=zN d;have a:=o.ph j;unfold phAt at a;rw[b]at a;simp only[zFH]at a;rw[a];cases hk:H.ths[j]? with
 | none=>rfl
 | some g'=>exact h g' (zE hk)
def Me.mal (x:Me)(a size e:Int)(D:Nat):Me:=((if e=0 then(x.forget a).add a size else x).count e true).tops (D:Int)
def Me.fre (x:Me)(a e:Int)(D:Nat):Me:=((if e=0 then x.forget a else x).count e false).tops (D:Int)
def Md (P:Rg)(mb am:Nat):Rg:=λb=>P b\/b=mb\/b=am
set_option maxRecDepth 8000 in
theorem WbQ (p:MP σ0 σ L H held s0 P mb am x)(mi:MeI x)(hc:x.calls<=899)(thread size align:Int){R:Int->Int->Hp->Prop}
 (hR:∀a e w ts H' held' s0' P',Ext (Md P mb am) σ w->MP σ0 w {L with ts:=ts} H' held' s0' P' mb am (x.mal a size e (H'.sp.st.count 2))->(∀b,P' b->P b\/σ.size<=b)->Qc H' H->MalE H size align H' a e->U2 H thread 0 size align 0 H' a e->R a e w) :
 XD.c (aW mb) thread size align σ R:=by
 refine XD.o ?_;unfold XD.v;refine GY p (ifF rfl (nilP (p.b.rP rfl ?_)));obtain⟨H',a,s,M,o,N⟩:=Wjn p.hi thread size align;refine Wgw Wmj p.h p.cf.2.2 M λv1 g S F=>?_;obtain⟨held',s0',D⟩:=o.hi;have Q:=p.step S F D o.kp (o.rest p.ph);have K:∀b,Cut (Grow P σ) v1 b->P b\/σ.size<=b:=λb i=>i.1;have r:Ext (Md P mb am) σ v1:=S.sub λb i=>.inl i;have A:∀{u u':Hp},Ext (λb=>b=mb\/b=am) u u'->Ext (Md P mb am) u u':=λe=>e.sub λb i=>.inr i;refine Wbm (λw=>Ext (Md P mb am) σ w/\MP σ0 w {L with ts:=g} H' held' s0' (Cut (Grow P σ) v1) mb am (if s=0 then(x.forget a).add a size else x)) (λw ⟨E,j⟩=>?_) λJ y=>?_
 ·refine nilP (Wfp j ?_ s true λw3 C B=>hR a s w3 g H' held' s0' _ (E.trans (A C)) B K o.kp N M);split<;>exact hc
 ·refine ifD (λG=>?_) λG=>?_
  ·have d:s=0:=by simpa using G
   have W:1<=size/\size<=16384:=by
    rcases N with⟨F,_⟩|⟨_,_,h2,_⟩
    ·exact absurd d F
    ·exact⟨h2.1,h2.2.1⟩
   rw[zB d]at y;have hs:=mi.sum_le;have hv:0<=(mget x.asked a).getD 0/\(mget x.asked a).getD 0<=16384:=by
    cases hm:mget x.asked a with
    | none=>exact⟨zCH _,by decide⟩
    | some z=>exact mi.v _ (KV hm)
   refine Wdt Q mi a λw2 E j=>nilP (j.b.rM rfl ⟨am,_,rfl,j.m,λw3 o3 Z=>?_⟩);have C:Ext (λb=>b=mb\/b=am) w2 w3:=o3.ext.sub λb i=>.inr i;have B:MP σ0 w3 {L with ts:=g} H' held' s0' (Cut (Grow P σ) v1) mb am ⟨mset (mdel x.asked a) a size,x.sum-(mget x.asked a).getD 0,x.peak,x.dirty,x.mallocs,x.frees,x.fails⟩:=j.upd C (o3.ext.blk j.b λ(hx:mb=am)=>p.ne hx) Z;have Y:(x.forget a).sum=x.sum-(mget x.asked a).getD 0:=rfl;refine nilP (B.b.rI rfl (ar aC aC (nilP (B.st O ((x.forget a).add a size) rfl rfl λU V X=>y U ⟨((r.trans (A E)).trans (A C)).trans (A V),X⟩))))
  ·have d:s≠0:=by simpa using G
   rw[zA d]at y;exact y v1 ⟨r,Q⟩
set_option maxRecDepth 8000 in
theorem WjS (p:MP σ0 σ L H held s0 P mb am x)(mi:MeI x)(hc:x.calls<=899)(thread addr:Int)(hx:I63 addr){R:aN}
 (hR:∀e w ts H' held' s0' P',Ext (Md P mb am) σ w->MP σ0 w {L with ts:=ts} H' held' s0' P' mb am (x.fre addr e (H'.sp.st.count 2))->(∀b,P' b->P b\/σ.size<=b)->Qc H' H->FreE H thread addr H' e->R e w) :
 Zc.c (aW mb) thread addr σ R:=by
 refine Zc.o ?_;unfold Zc.v;refine GY p (ifF rfl (nilP (p.b.rP rfl ?_)));obtain⟨H',g,F,o,M⟩:=Wgc p.hi thread addr hx;refine Wkn Wmj p.h p.cf.2.2 F λv1 j C G=>?_;obtain⟨held',s0',s⟩:=o.hi;have B:=p.step C G s o.kp (o.rest p.ph);have A:∀b,Cut (Grow P σ) v1 b->P b\/σ.size<=b:=λb i=>i.1;have d:Ext (Md P mb am) σ v1:=C.sub λb i=>.inl i;have D:∀{u u':Hp},Ext (λb=>b=mb\/b=am) u u'->Ext (Md P mb am) u u':=λe=>e.sub λb i=>.inr i;refine Wbm (λw=>Ext (Md P mb am) σ w/\MP σ0 w {L with ts:=j} H' held' s0' (Cut (Grow P σ) v1) mb am (if g=0 then x.forget addr else x)) (λw ⟨z,r⟩=>?_) λJ m=>?_
 ·refine nilP (Wfp r ?_ g false λK Q E=>hR g K j H' held' s0' _ (z.trans (D Q)) E A o.kp M);split<;>exact hc
 ·refine ifD (λy=>?_) λy=>?_
  ·have a:g=0:=by simpa using y
   rw[zB a]at m;exact Wdt B mi addr λN z r=>m N ⟨d.trans (D z),r⟩
  ·have a:g≠0:=by simpa using y
   rw[zA a]at m;exact m v1 ⟨d,B⟩
end Go.Ar
namespace Go.Ar
open Go Go.Vc Go.Proofs
open Go.Vc (mget mset mdel)
open Go.Bu (cnt)
variable {σ σ0 v w w':Hp}{F P Q X T:Rg}{L:LayH}{H H':Hw}{held:List Pc}{s0:Sp}{t n:Nat}{g:Th}{mb am m:Nat}{x y:Me}
theorem Wlg {s:Sl}{bs:List Bk}(hs:SlR s 4 (bksV bs) σ F)(hl:bs.length<=1000000)(hb:∀b∈bs,0<=b.2.1/\b.2.1<=270000){R:aN}(hR:∀σ',Ext0 σ σ'->R ((bs.map λb=>b.2.1).sum) σ') :
 Xb.c s ⟨60,#[],#[]⟩ σ R:=by
 refine Xb.o ?_;unfold Xb.v;have P:s.len=bs.length:=by have:=hs.1;rw[Hs]at this;omega
 refine Km (a:=bN) (bb:=bN) (λ(sum i:Int) w=>∃k:Nat,i=k/\k<=bs.length/\Ext0 σ w/\sum=((bs.take k).map λb=>b.2.1).sum) (λ_ i _=>bs.length-i.toNat) ⟨0,rfl,O,Ext.refl _ _,by simp⟩ ?_;rintro(sum:Int) (i:Int) w ⟨k,rfl,hk,e,rfl⟩;refine ifD (λz=>?_) λA=>?_
 ·have J:k<bs.length:=by omega
  have p:bs[k]?=some bs[k]:=gGe _;generalize bs[k]=b at p;have H:=hb b (zE p);have g:=Uh (l:=bs.take k) (f:=λb:Bk=>b.2.1) (c:=270000) λb h=>hb b (zAR h);have x:(bs.take k).length=k:=by rw[zO];omega
  rw[x]at g;have d:((bs.take (k+1)).map λb:Bk=>b.2.1).sum=((bs.take k).map λb:Bk=>b.2.1).sum+b.2.1:=by rw[zg,p];simp
  refine Wnq (aH.keep0 (aH.cut hs) e) p λbb o j=>ldI0 (j 0 _ rfl) (ldI0 (j 1 _ rfl) (ldI0 (j 2 _ rfl) (ldI0 (j 3 _ rfl) ?_)));refine nw (cs:=[.int .i64 0,.int .i64 0,.int .i64 0,.int .i64 0]) λQ N L E=>E.s1 aA λv3 o3 D=>D.s1 aA λU o4 G=>G.s1 aA λV o5 K=>K.s1 aA λv6 o6 r=>?_;have y:Ext0 w v6:=Ext.fresh (Ext.fresh (Ext.fresh (Ext.fresh L o3.ext λi u=>O) o4.ext λi u=>O) o5.ext λi u=>O) o6.ext λi u=>by omega
  refine r.rI rfl (r.rI rfl (r.rI rfl (r.rI rfl ?_)));refine Gh (all := #[.agg #[.int .i64 b.1,.int .i64 b.2.1,.int .i64 b.2.2.1,.int .i64 b.2.2.2]]) (by kernel_rfl) aA ?_;refine XI.o ?_;unfold XI.v;refine nw (cs:=[.int .i64 b.1,.int .i64 b.2.1,.int .i64 b.2.2.1,.int .i64 b.2.2.2]) λS M B C=>C.rI rfl (ar O O (arN (m:=k+1) O O ⟨⟨k+1,rfl,O,(e.trans y).trans B,d.symm⟩,O⟩))
 ·have:k=bs.length:=by omega
  subst this;rw[zl];exact hR w e
def GD (l:List (Int×Bk)):Int:=(l.map λe=>e.2.2.1).sum
theorem WjF (hi:HI H held s0){bs:List Bk}(hl:LiveL H.live bs):(bs.map λb=>(b.1,b)).Perm H.live:=by
 have i:(bs.map λb=>(b.1,b)).Nodup:=zCN.2 (hl.srt.imp λ{a b} h e=>by have:=congrArg Prod.fst e;simp only at this;omega);have g:H.live.Nodup:=by
  have:=zCN.1 hi.lk;exact this.imp λ{a b} h e=>h (by rw[e])
 rw[zEQ i g];intro e;rw[zD];constructor
 ·rintro⟨b,hb,rfl⟩;exact(hl.mem b).1 hb
 ·intro he;have d:=(hi.lv e he).1;exact⟨e.2,(hl.mem e.2).2 (by rw[d];exact he),by rw[d]⟩
theorem Wo5 {l l':List Int}(h:l.Perm l'):l.sum=l'.sum:=by
 induction h with
 | nil=>rfl
 | cons a _ ih=>simp only[zp];omega
 | swap a b l=>simp only[zp];omega
 | trans _ _ h1 h2=>omega
theorem Wfy (hi:HI H held s0){bs:List Bk}(hl:LiveL H.live bs):(bs.map λb=>b.2.1).sum=GD H.live:=by
 have a:=Wo5 ((WjF hi hl).map λe=>e.2.2.1);rw[zt]at a;exact a
def Wf0 (H:Hw):Nat:=VZ H+Vh Ud H+Vh Wan H
def UY:List Value:=[.int .i64 0,.int .i64 0,.int .i64 0,.int .i64 0,.int .i64 0,.int .i64 0,.int .i64 0,.int .i64 0,.int .i64 0,.int .i64 0]
set_option maxRecDepth 16000 in
theorem Wbr (p:MP σ0 σ L H held s0 P mb am x){R:Int->Int->Int->Int->Int->Int->Int->Int->Int->Int->Hp->Prop}
 (hR:∀w,Ext0 σ w->StOk H->R x.sum (GD H.live) (Wf0 H:Nat) (Vh Ut H:Nat) (Vh Vx H*256:Nat) x.peak x.dirty (x.mallocs:Nat) (x.frees:Nat) (x.fails:Nat) w):Xh.c (aW mb) σ R:=by
 refine Xh.o ?_;unfold Xh.v;refine nw (cs:=UY) λv hz e N=>GY (p.fr e) (ifF rfl (nilP ((p.fr e).b.rP rfl (Wde (p.fr e).h p.hi p.hands λz F so=>?_))));refine nw (cs:=V1) λaa X U J=>st11 J _ _ _ _ _ _ _ _ _ _ _ λv24 K g=>?_;have u:Ext0 z v24:=Ext.fresh U K λi (hi:i=z.size)=>by omega
 have ev:Ext0 v v24:=F.trans u;have d:=(p.fr e).fr ev;obtain⟨D,G,S,V,E,W,M⟩:=so;refine⟨λm=>Ext0 v24 m,Ext.refl _ _,nilP (Blk.rH (c:=bN) (y:=x.sum) d.b rfl (nilP (Blk.rH (c:=.p) (y:=some ⟨L.p,0,none⟩) d.b rfl (Blk.rH (c:=bN) (y:=(VZ H:Nat)) g rfl (Blk.rH (c:=bN) (y:=0) g rfl (arN (m:=VZ H) O O ?_))))))⟩;refine Blk.rH (c:=bN) (y:=(Vh Ud H:Nat)) g rfl (arN (m:=VZ H+Vh Ud H) O O (Blk.rH (c:=bN) (y:=(Vh Wan H:Nat)) g rfl (arN (m:=Wf0 H) (by unfold Wf0;omega) (by unfold Wf0;omega) ?_)));refine Blk.rH (c:=bN) (y:=(Vh Ut H:Nat)) g rfl (Blk.rH (c:=bN) (y:=(Vh Vx H:Nat)) g rfl (arN (m:=Vh Vx H*256) O O ?_));refine nilP (Blk.rH (c:=bN) (y:=x.peak) d.b rfl (nilP (Blk.rH (c:=bN) (y:=x.dirty) d.b rfl (nilP (Blk.rH (c:=bN) (y:=(x.mallocs:Int)) d.b rfl (nilP (Blk.rH (c:=bN) (y:=(x.frees:Int)) d.b rfl (nilP (Blk.rH (c:=bN) (y:=(x.fails:Int)) d.b rfl ?_)))))))));refine Wcd d.h p.hi λs v25 bs j Q C=>⟨j,?_⟩;refine Wlg (RowR.slR C) (by rw[Q.len];exact p.hi.live_len) (λb N=>?_) λA r=>⟨j.trans r,?_⟩
 ·have:=p.hi.size8 ((Q.mem b).1 N);simp only at this;omega
 rw[Wfy p.hi Q];have B:Blk A σ.size UY:=((ev.trans j).trans r).blk N id;unfold UY at B;refine B.s1 aA λv1 o1 Z=>Z.s1 aA λv2 o2 b2=>b2.s1 aA λv3 o3 b3=>b3.s1 aA λv4 o4 Y=>Y.s1 aA λv5 o5 b5=>b5.s1 aA λv6 o6 b6=>b6.s1 aA λv7 o7 b7=>b7.s1 aA λv8 o8 b8=>b8.s1 aA λv9 o9 b9=>b9.s1 aA λv10 o10 a=>?_;refine a.rI rfl (a.rI rfl (a.rI rfl (a.rI rfl (a.rI rfl (a.rI rfl (a.rI rfl (a.rI rfl (a.rI rfl (a.rI rfl (hR v10 ?_ ⟨D,G,S,V,E,W,M⟩))))))))));have eo:Ext (· = σ.size) A v10:=((((((((o1.ext.trans o2.ext).trans o3.ext).trans o4.ext).trans o5.ext).trans o6.ext).trans o7.ext).trans o8.ext).trans o9.ext).trans o10.ext;exact Ext.fresh (((e.trans ev).trans j).trans r) eo λi (hi:i=σ.size)=>by omega
theorem Wle (h:HH σ F L H)(hp:1<=H.cf.pages){R:aO}(hR:∀σ',Ext0 σ σ'->R true σ'):QB.c (aW L.p) σ R:=by
 refine QB.o ?_;unfold QB.v;refine JnB.intro (ifT rfl (Wga h λw e=>?_));have:decide ((H.cf.pages:Int)>0)=true:=zU O;rw[this];exact hR w e
theorem Wi1 (e0:Ext0 σ0 σ)(h:HH σ P L H)(hi:HI H held s0)(hc:CfOk H)(hph:∀g∈H.ths,g.ph=none)(hpg:H.cf.pages<=128)(hP:∀b,P b->σ0.size<=b/\b<σ.size)(hg:Off (λb=>σ0.size<=b)/\¬σ0.size<=1){R:Option Addr->Int->Hp->Prop}
 (hR:∀w mb am,Ext0 σ w->σ.size<=mb->σ.size<=am->MP σ0 w L H held s0 P mb am me0->R (some ⟨mb,0,none⟩) 0 w):QI.c (aW L.p) σ R:=by
 refine QI.o ?_;unfold QI.v;refine Wle h hc.1 λv e=>ifF rfl (Wen λx r z j=>nw (cs:=meV L.p v.size me0) λs m i u=>?_);have y:=e.1;have A:=e0.1;have a:=(e.trans z).trans i;refine hR s x.size v.size a O y ⟨e0.trans a,h.keep0 a,hi,hc,hph,hpg,λb d=>⟨(hP b d).1,by have:=(hP b d).2;omega⟩,⟨O,λd=>by have:=(hP _ d).2;omega⟩,⟨O,λd=>by have:=(hP _ d).2;omega⟩,O,u,i.mapL (j _ _) id,hg⟩
end Go.Ar