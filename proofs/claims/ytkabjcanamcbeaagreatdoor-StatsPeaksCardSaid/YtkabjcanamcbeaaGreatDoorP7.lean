/- Texts joined. -/
import Derived.Shelf.SlSortCmp.NoneTotal
import Derived.Ground.SlsfProg
import Derived.Test.YtkabjcanamcbeaaGreatDoorProg
import Derived.Shelf.SlIterI.Nil
import Derived.Ground.GgzProg
import Derived.Test.YtkabjcanamcbeaaGreatDoorP6
set_option linter.unusedVariables false
set_option linter.unusedSimpArgs false
namespace Go.Ar
open Go.Vc (mget mset mdel)
open Go.Bu (Zf)
structure KS (s s':Sp):Prop where
 l:s'.st.length=s.st.length
 k:∀p,gf s.st p≠0->gf s'.st p≠0/\∀w,w/32=p->s'.wd w=s.wd w
theorem KS.refl (s:Sp):KS s s:=⟨rfl,λp a=>⟨a,λ_ _=>rfl⟩⟩
theorem KS.trans {a b c:Sp}(h:KS a b)(k:KS b c):KS a c:=⟨k.l.trans h.l,λp d=>⟨(k.k p (h.k p d).1).1,λw e=>((k.k p (h.k p d).1).2 w e).trans ((h.k p d).2 w e)⟩⟩
variable {s s' sp sp' s0 s0':Sp}{A B:AR}{k:Nat}
theorem Sim.mz (h:Sim s s'):s'.st.map (λx=>decide (x=0))=s.st.map λx=>decide (x=0):=by
 refine zu λi=>?_;rw[zf,zf];have a:=h.z i;unfold gf at a;rw[zM,zM]at a;by_cases hi:i<s.st.length
 ·have b:i<s'.st.length:=by rw[h.l];exact hi
  rw[gGe hi,gGe b]at a ⊢;simp only[zBU]at a;simp[a]
 ·have d:=h.l;rw[zY O,zY O]
theorem Wl3 {l l':List Nat}(h:l'.map (λx=>decide (x=0))=l.map λx=>decide (x=0))(a m:Nat)(f:Bool->Bool):((l'.drop a).take m).any (λx=>f (decide (x=0)))=((l.drop a).take m).any λx=>f (decide (x=0)):=by
 have e:∀l:List Nat,((l.drop a).take m).any (λx=>f (decide (x=0)))=(((l.map λx=>decide (x=0)).drop a).take m).any f:=λl=>by
  rw[←List.map_drop,←List.map_take,List.any_map];rfl
 rw[e,e,h]
theorem Sim.mapE (h:Sim s s')(a m:Int):mapE s' a m=mapE s a m:=by
 unfold Go.Ar.mapE;rw[h.l];have:=Wl3 h.mz a.toNat m.toNat (λb=>!b);have e:∀l:List Nat,l.any (λx=>x != 0)=l.any λx=>!decide (x=0):=λl=>by
  refine congrArg l.any (funext λx=>?_);cases x<;>rfl
 rw[e,e,this]
theorem Sim.leaveE (h:Sim s s')(a m:Int):leaveE s' a m=leaveE s a m:=by
 unfold Go.Ar.leaveE WkE;rw[h.l];have:=Wl3 h.mz a.toNat m.toNat (λb=>b);have e:∀l:List Nat,l.contains 0=l.any λx=>decide (x=0):=λl=>by
  rw[zBD];simp only[zDC,zw,zT,exists_eq_right]
 rw[e,e,this]
theorem Sim.set (h:Sim s s'){a m v:Nat}(hl:a+m<=s.st.length):Sim (s.set a m v) (s'.set a m v):=by
 refine⟨by simp[Sp.set,Ql,h.l],λp=>?_,?_⟩
 ·show gf (setR s'.st a (a+m) v) p=0↔gf (setR s.st a (a+m) v) p=0;rw[He (by rw[h.l];exact hl),He hl];split
  ·exact Iff.rfl
  ·exact h.z p
 ·show(λw=>if a*32<=w/\w<(a+m)*32 then 0 else s'.wd w)=_
  rw[h.w];rfl
theorem Wl2 {n:Nat}{a m:Int}(h:Zf n a m=true):a.toNat+m.toNat<=n:=by
 by_cases h0:0<=a/\0<=m
 ·obtain⟨a,rfl⟩:=zk h0.1;obtain⟨m,rfl⟩:=zk h0.2;rw[iTn,iTn];exact(Vk.1 h).2
 ·exfalso;unfold Zf at h;simp at h;omega
theorem Sim.mapS (h:Sim s s')(a m:Int):Sim (mapS s a m) (mapS s' a m):=by
 unfold Go.Ar.mapS;rw[h.mapE];split
 ·rename_i h0;refine h.set ?_;unfold Go.Ar.mapE at h0;split at h0
  ·rename_i hr;exact Wl2 hr
  ·simp at h0
 ·exact h
theorem Sim.leaveS (h:Sim s s')(a m:Int)(v:Nat):Sim (leaveS s a m v) (leaveS s' a m v):=by
 unfold Go.Ar.leaveS;rw[h.leaveE];split
 ·rename_i h0;refine h.set ?_;unfold Go.Ar.leaveE at h0;split at h0
  ·rename_i hr;exact Wl2 hr
  ·simp at h0
 ·exact h
theorem Why (s:Sp)(a m:Nat):KS s (mapS s (a:Int) (m:Int)):=by
 by_cases h:mapE s (a:Int) (m:Int)=0
 ·have r:=WaY h;obtain⟨j,g,i,_⟩:=WhT h;refine⟨j,λp d=>?_⟩;have b:¬(a<=p/\p<a+m):=λe=>d (r.2.2 p e.1 e.2);exact⟨by rw[g,zA b];exact d,λw u=>i w O⟩
 ·unfold mapS;rw[zA h];exact KS.refl s
theorem Sim.growStart (h:Sim s s')(size:Nat):growStart s' size=growStart s size:=by
 unfold Go.Ar.growStart;rw[h.l]
 congr 1
 funext x
 rw[h.mapE]
theorem Sim.getA (h:Sim s s')(A:AR)(m a no:Nat):(getA A s' m a no).1=(getA A s m a no).1/\(getA A s' m a no).2.1=(getA A s m a no).2.1/\Sim (getA A s m a no).2.2 (getA A s' m a no).2.2/\KS s' (getA A s' m a no).2.2:=by
 unfold Go.Ar.getA;split
 ·exact⟨rfl,rfl,h,KS.refl _⟩
 ·unfold UO;rw[h.growStart];cases hg:Go.Ar.growStart s (Q4 (max m a))with
  | none=>exact⟨rfl,rfl,h,KS.refl _⟩
  | some x=>
   simp only;split
   ·exact⟨rfl,rfl,h.mapS _ _,Why _ _ _⟩
   ·exact⟨rfl,rfl,h.mapS _ _,Why _ _ _⟩
theorem Sim.growS (h:Sim s s')(A:AR)(k:Int):(growS A s' k).1=(growS A s k).1/\KP A s' k=KP A s k/\Sim (growS A s k).2 (growS A s' k).2/\KS s' (growS A s' k).2:=by
 unfold Go.Ar.growS KP;split
 ·split
  ·rename_i c ss _ _;obtain⟨a,b,e,d⟩:=h.getA A c.pages 1 (k.toNat+1);cases e1:Go.Ar.getA A s c.pages 1 (k.toNat+1)with
   | mk o1 r1=>cases e2:Go.Ar.getA A s' c.pages 1 (k.toNat+1)with
    | mk o2 r2=>
     obtain⟨j,m⟩:=r1;obtain⟨g,i⟩:=r2;rw[e1,e2]at a b e;rw[e2]at d;simp only at a b e d;subst a;subst b;cases o2<;>exact⟨rfl,rfl,e,d⟩
  ·exact⟨rfl,rfl,h,KS.refl _⟩
 ·exact⟨rfl,rfl,h,KS.refl _⟩
theorem Sim.takeAS (h:Sim s s')(A:AR)(m a:Int):(takeAS A s' m a).1=(takeAS A s m a).1/\Qz A s' m a=Qz A s m a/\Z5 A s' m a=Z5 A s m a/\Sim (takeAS A s m a).2 (takeAS A s' m a).2/\KS s' (takeAS A s' m a).2:=by
 unfold Go.Ar.takeAS Qz Z5;split
 ·obtain⟨b,d,g,e⟩:=h.getA A m.toNat a.toNat 41;cases e1:Go.Ar.getA A s m.toNat a.toNat 41 with
  | mk o1 r1=>cases e2:Go.Ar.getA A s' m.toNat a.toNat 41 with
   | mk o2 r2=>
    obtain⟨p,r⟩:=r1;obtain⟨i,j⟩:=r2;rw[e1,e2]at b d g;rw[e2]at e;simp only at b d g e;subst b;subst d;cases o2<;>exact⟨rfl,rfl,rfl,g,e⟩
 ·exact⟨rfl,rfl,rfl,h,KS.refl _⟩
theorem WbT (s:Sp)(a m:Int)(v:Nat):(leaveS s a m v).st.length=s.st.length:=by
 unfold Go.Ar.leaveS;split
 ·simp[Sp.set,Ql]
 ·rfl
theorem Sim.relF:∀(rs:List (Nat×Nat)) {s s':Sp} (A:AR),Sim s s'->(rs.foldl rel1 (A,s')).1=(rs.foldl rel1 (A,s)).1/\Sim (rs.foldl rel1 (A,s)).2 (rs.foldl rel1 (A,s')).2/\(rs.foldl rel1 (A,s')).2.st.length=s'.st.length
 | [],s,s',A,h=>⟨rfl,h,rfl⟩
 | r::rs,s,s',A,h=>by
  rw[zAI,zAI];obtain⟨h1,h2,h3⟩:=Sim.relF rs (rel1 (A,s) r).1 (h.leaveS r.1 r.2 1);exact⟨h1,h2,h3.trans (WbT _ _ _ _)⟩
theorem Sim.relS (h:Sim s s')(A:AR)(want:Int):(relS A s' want).1=(relS A s want).1/\Sim (relS A s want).2 (relS A s' want).2/\(relS A s' want).2.st.length=s'.st.length:=by
 unfold Go.Ar.relS;split
 ·exact⟨rfl,h,rfl⟩
 ·exact Sim.relF _ _ h
theorem Sim.trimF:∀(rs:List Nat) {s s':Sp} (A:AR),Sim s s'->(rs.foldl Ve (A,s')).1=(rs.foldl Ve (A,s)).1/\Sim (rs.foldl Ve (A,s)).2 (rs.foldl Ve (A,s')).2/\(rs.foldl Ve (A,s')).2.st.length=s'.st.length
 | [],s,s',A,h=>⟨rfl,h,rfl⟩
 | r::rs,s,s',A,h=>by
  rw[zAI,zAI];obtain⟨h1,h2,h3⟩:=Sim.trimF rs (Ve (A,s) r).1 (h.leaveS ((r*16:Nat):Int) 16 0);exact⟨h1,h2,h3.trans (WbT _ _ _ _)⟩
theorem Sim.trimS (h:Sim s s')(A:AR):(trimS A s').1=(trimS A s).1/\Sim (trimS A s).2 (trimS A s').2/\(trimS A s').2.st.length=s'.st.length:=Sim.trimF _ _ h
variable {W:Wd}
theorem Wmf (h:WI W){cl:Int}{l:List Int}(ho:ownW W.held k cl l=true)(c x:Int):Um (W.held.filter λp=>!isOf k cl l p) c x↔Um W.held c x/\¬(c=cl/\x∈l):=by
 constructor
 ·rintro⟨p,hp,h1,h2,h3⟩;obtain⟨a,b⟩:=zH.1 hp;refine⟨⟨p,a,h1,h2,h3⟩,?_⟩;rintro⟨rfl,d⟩;obtain⟨q,j,e⟩:=(KD.1 ho).1 x d;obtain⟨g,s,u,r⟩:=Kz.1 e;obtain rfl:=h.same (p:=p) (q:=q) a j O;have:isOf k c l p=true:=Z4.2 ⟨g,h2,by rw[h3];exact d⟩;rw[this]at b;cases b
 ·rintro⟨⟨p,hp,h1,h2,h3⟩,b⟩;refine⟨p,zH.2 ⟨hp,?_⟩,h1,h2,h3⟩;have:isOf k cl l p=false:=zAT.2 λd=>by
   obtain⟨_,i,m⟩:=Z4.1 d;exact b ⟨h2.symm.trans i,by rw[←h3];exact m⟩
  rw[this];rfl
theorem Wod {held:List Pc}{cl:Int}{l:List Int}(ho:ownW held k cl l=true):∀x∈l,Um held cl x:=λx i=>by
 obtain⟨q,e,a⟩:=(KD.1 ho).1 x i;obtain⟨j,d,g,b⟩:=Kz.1 a;exact⟨q,e,b,d,g⟩
theorem WjR (h:WI W){cl:Int}{l:List Int}(ho:ownW W.held k cl l=true)(c x:Int):Um (HX W.held k cl l true) c x↔Um W.held c x/\¬(c=cl/\x∈l):=by
 constructor
 ·rintro⟨p,hp,h1,h2,h3⟩;obtain⟨q,b,rfl⟩:=QK.1 hp;by_cases hof:isOf k cl l q=true
  ·rw[zB hof]at h1;cases h1
  ·rw[zA hof]at h1 h2 h3;refine⟨⟨q,b,h1,h2,h3⟩,?_⟩;rintro⟨rfl,hx⟩;obtain⟨r,g,a⟩:=(KD.1 ho).1 x hx;obtain⟨d,m,s,j⟩:=Kz.1 a;obtain rfl:=h.same b g O;exact hof (Z4.2 ⟨d,h2,by rw[h3];exact hx⟩)
 ·rintro⟨⟨p,hp,h1,h2,h3⟩,hn⟩;refine⟨p,QK.2 ⟨p,hp,?_⟩,h1,h2,h3⟩;rw[zA];intro hx;obtain⟨_,e,i⟩:=Z4.1 hx;exact hn ⟨h2.symm.trans e,by rw[←h3];exact i⟩
theorem Wht {held:List Pc}{cl:Int}{l:List Int}:∀p∈HX held k cl l true,p.moved=false->p∈held:=λp d a=>by
 obtain⟨q,b,rfl⟩:=QK.1 d;by_cases hof:isOf k cl l q=true
 ·rw[zB hof]at a;cases a
 ·rw[zA hof];exact b
theorem WmW (h:WI W)(hk:W.ars[k]?=some A){j:Nat}:(∀x∈YL A (j:Int),∀c,¬Um W.held c x)/\(YL A (j:Int)).Nodup/\(∀c x,Um (HX W.held k j (YL A (j:Int)) false) c x↔Um W.held c x\/(c=j/\x∈YL A (j:Int))) ∧
 (∀p∈HX W.held k j (YL A (j:Int)) false,p.moved=false->p∈W.held\/∀c,¬Um W.held c (p.addr:Int)):=by
 obtain⟨o,N,y,K,L,P⟩:=WdZ (h.ga k A hk) (j:Int);rw[iTn]at y;have z:∀x∈YL A (j:Int),∃q∈W.held,q.k=k/\q.cls=j/\(q.addr:Int)=x/\q.moved=true:=λx d=>by
  have u:=y x d;obtain⟨t,ht,m⟩:=u;have w:j<A.tb.length:=by rw[←(h.ga k A hk).lt];exact(gSi.1 ht).1
  obtain⟨c,H,Q,C,F⟩:=(h.ga k A hk).cl w;have s:TkA A j x:=(KR C).2 ((h.ga k A hk).trt j c H t C ht x m);obtain⟨q,a,r,i,b⟩:=h.ht k A hk j x s;obtain⟨_,_,_,_,J⟩:=h.cls a i (by rw[r];exact hk);exact⟨q,a,r,i,b,J.2 (by rw[b];exact⟨t,ht,m⟩)⟩
 have g:∀x∈YL A (j:Int),∀c,¬Um W.held c x:=λx d c G=>by
  obtain⟨q,a,_,_,b,B⟩:=z x d;have:=(h.um a G b).1;rw[B]at this;cases this
 refine⟨g,K,λc x=>⟨?_,?_⟩,λp e M=>?_⟩
 ·rintro⟨p,e,h1,h2,h3⟩;obtain⟨q,a,rfl⟩:=QK.1 e;by_cases hof:isOf k (j:Int) (YL A (j:Int)) q=true
  ·rw[zB hof]at h2 h3;obtain⟨_,D,E⟩:=Z4.1 hof;exact .inr ⟨h2.symm.trans D,by rw[←h3];exact E⟩
  ·rw[zA hof]at h1 h2 h3;exact .inl ⟨q,a,h1,h2,h3⟩
 ·rintro(⟨p,e,h1,h2,h3⟩|⟨rfl,d⟩)
  ·refine⟨p,QK.2 ⟨p,e,?_⟩,h1,h2,h3⟩;split
   ·rw[←h1]
   ·rfl
  ·obtain⟨q,a,r,i,b,B⟩:=z x d;refine⟨{q with moved:=false},QK.2 ⟨q,a,?_⟩,rfl,i,b⟩;rw[zB (Z4.2 ⟨r,i,by rw[b];exact d⟩)]
 ·obtain⟨q,a,rfl⟩:=QK.1 e;by_cases hof:isOf k (j:Int) (YL A (j:Int)) q=true
  ·rw[zB hof];exact .inr (g _ (Z4.1 hof).2.2)
  ·rw[zA hof];exact .inl a
theorem WjG {tb:List Cls}{ars:List AR}{sp:Sp}{held new:List Pc}(h:WI ⟨tb,sp,ars,held++new⟩):∀p∈new,∀c,¬Um held c (p.addr:Int):=by
 rintro p d c ⟨q,b,_,_,g⟩;have e:=h.same (p:=p) (q:=q) (zBV _ d) (zBF _ b) O;have a:=h.hk;simp only[zAD]at a;rw[zBJ]at a;exact a.2.2 q.key (zC.2 ⟨q,b,rfl⟩) p.key (zC.2 ⟨p,d,rfl⟩) (by rw[e])
theorem WlJ {held new:List Pc}{cl:Int}{l:List Int}(h1:∀p∈new,p.moved=false/\p.cls=cl/\(p.addr:Int)∈l)(h2:∀x∈l,∃p∈new,(p.addr:Int)=x)(c x:Int):Um (held++new) c x↔Um held c x\/(c=cl/\x∈l):=by
 constructor
 ·rintro⟨p,b,a1,a2,a3⟩;rcases zR.1 b with b|b
  ·exact .inl ⟨p,b,a1,a2,a3⟩
  ·obtain⟨_,d,g⟩:=h1 p b;exact .inr ⟨a2.symm.trans d,by rw[←a3];exact g⟩
 ·rintro(⟨p,b,a⟩|⟨rfl,hx⟩)
  ·exact⟨p,zBF _ b,a⟩
  ·obtain⟨p,b,e⟩:=h2 x hx;exact⟨p,zBV _ b,(h1 p b).1,(h1 p b).2.1,e⟩
theorem Whh {tb:List Cls}{ars:List AR}{sp:Sp}{held new:List Pc}(h:WI ⟨tb,sp,ars,held++new⟩):∀p∈held++new,p.moved=false->p∈held\/∀c,¬Um held c (p.addr:Int):=λp a _=>by
 rcases zR.1 a with a|a
 ·exact .inl a
 ·exact .inr (WjG h p a)
theorem Wl5 {held:List Pc}(us:List AR)(c x:Int):Um (Wg0 us held) c x↔Um held c x:=by
 unfold Wg0;constructor
 ·rintro⟨p,hp,h⟩;exact⟨p,(zH.1 hp).1,h⟩
 ·rintro⟨p,hp,h1,h⟩;exact⟨p,zH.2 ⟨hp,by rw[h1];rfl⟩,h1,h⟩
theorem KV {ss:List SpA}:∀{i:Nat},Zv ss i=none->∀k,k<i->∀s,ss[k]?=some s->¬s.many<s.tk.length
 | 0,_,k,hk,_,_=>by omega
 | i+1,h,k,hk,s,hs=>by
  unfold Zv at h;by_cases hki:k=i
  ·subst hki;rw[hs]at h;simp only at h;intro hlt;rw[zB hlt]at h;split at h
   ·split at h
    ·split at h<;>cases h
    ·cases h
   ·cases h
  ·cases hi:ss[i]? with
   | none=>
    rw[hi]at h;exact KV h k O s hs
   | some x=>
    rw[hi]at h;simp only at h;split at h
    ·split at h
     ·split at h
      ·split at h<;>cases h
      ·cases h
     ·exact KV (by assumption) k O s hs
    ·exact KV h k O s hs
theorem WiX (h:GA A)(hw:Ow A sp){j:Nat}(hE:KP A sp (j:Int)=0){w:Nat}(h1:1<=w):Yt (growS A sp (j:Int)).1 (j:Int) (w:Int)≠[]:=by
 rcases WaD h hw (j:Int)with⟨_,hn⟩|⟨j',c,ss,x,A1,sp1,hj,hk,hk1,_,e,hst,r1,r2,r3,_,hd,hS⟩
 ·exact(hn hE).elim
 ·obtain rfl:j=j':=by omega
  have a:Cl (growS A sp (j:Int)).1 j c (addS c ss x):=by
   rw[e];have d:Cl (useA A1 x c.pages (j+1)) j c ss:=hk1;exact U3 d _
  have D:=hS.ga.cen j c _ a;have b:(⟨x,List.replicate c.n false⟩:SpA)∈addS c ss x:=VD.2 (.inl rfl);have p:(growS A sp (j:Int)).1.ck (j:Int)=true:=HN.2 ⟨j,rfl,a.lt⟩;unfold Yt QI Vs;rw[p,zB rfl,zA (show ¬((w:Int)<0) by omega),zB rfl,iTn,iTn,a.1,a.2];simp only;obtain⟨w,rfl⟩:∃v,w=v+1:=⟨w-1,O⟩;cases ho:oneS c (addS c ss x)with
  | some r=>
   obtain⟨y,B⟩:=r;rw[Gu ho];simp
  | none=>
   exfalso;unfold oneS best at ho;obtain⟨l,z⟩:=zN b;have g:=(gSi.1 z).1;have m:(⟨x,List.replicate c.n false⟩:SpA).many<(⟨x,List.replicate c.n false⟩:SpA).tk.length:=by
    have:=D.ok.n_pos;simp[SpA.many,zFM];omega
   cases hb:Zv (addS c ss x) (addS c ss x).length with
   | none=>exact KV hb l g _ z m
   | some i=>
    rw[hb]at ho;obtain⟨_,s,E,u⟩:=QT hb;obtain⟨r,C,_⟩:=GZ u;simp only[E,C]at ho;cases ho
end Go.Ar
namespace Go.Ar
open Go.Vc (mget mset mdel)
variable {H:Hw}{held:List Pc}{s0:Sp}{t k:Nat}{g:Th}{A:AR}{c:Cls}
theorem Z3 {p:Ph}{H1:Hw}{g1:Th}{nx:Option Ph}{a e:Int}(ht:t<H.ths.length)(hs:Wt H t p=({H1 with ths:=H.ths.set t g1},nx,a,e)):QU H t p = {H1 with ths:=H.ths.set t {g1 with ph:=nx}}:=by
 unfold QU;rw[hs];show Hw.setT _ t _=_;rw[ZL (g:=g1) (by simp[ht])];simp only[zBO]
structure StI (H:Hw) (t:Nat) (p:Ph):Prop where
 ok:WbE H t p
 hi:∃held s0,HI (QU H t p) held s0
 ks:KS H.sp (QU H t p).sp
theorem StI.mk' {p:Ph}(hg:H.ths[t]?=some g)(hl:g.hands.length<=41)(h1:WgG H t p){H':Hw}{held':List Pc}{s0':Sp}(e:QU H t p=H')(h2:HI H' held' s0')(h3:KS H.sp H'.sp):StI H t p:=
 ⟨⟨h1,λb a=>by rw[hg]at a;cases a;omega⟩,⟨held',s0',by rw[e];exact h2⟩,by rw[e];exact h3⟩
def Rq (tb:List Cls)(g:Th):Ph->Int->Int->Prop
 | .take k,cl,sz=>cl=k/\∃c,tb[k]?=some c/\sz=c.size
 | .transfer k _,cl,sz=>cl=k/\∃c,tb[k]?=some c/\sz=c.size
 | .central k _,cl,sz=>cl=k/\∃c,tb[k]?=some c/\sz=c.size
 | .grow k _,cl,sz=>cl=k/\∃c,tb[k]?=some c/\sz=c.size
 | .fill,cl,sz=>∃k xs r c,g.hands=(k,xs)::r/\cl=k/\tb[k]?=some c/\sz=c.size
 | .large m,cl,sz=>cl = -1/\sz=((m*256:Nat):Int)
 | _,_,_=>False
def Wam (H:Hw)(t:Nat):Ph->Nat
 | .take _=>5
 | .transfer _ _=>4
 | .central k w=>if Yt (H.arn t) (k:Int) (w:Int)=[]then 3 else 1
 | .grow _ _=>2
 | _=>0
def EfM (H:Hw)(t:Nat)(p:Ph)(cl sz:Int):Prop:=
 (∃p' g',(Wt H t p).2.1=some p'/\(QU H t p).live=H.live/\(QU H t p).ths[t]?=some g'/\Rq H.tb g' p' cl sz/\Wam (QU H t p) t p'<Wam H t p) ∨
 ((Wt H t p).2.1=none/\(Wt H t p).2.2.2≠0/\(Wt H t p).2.2.1=0/\(QU H t p).live=H.live) ∨
 ((Wt H t p).2.1=none/\(Wt H t p).2.2.2=0/\mget H.live (Wt H t p).2.2.1=none/\(QU H t p).live=mset H.live (Wt H t p).2.2.1 ((Wt H t p).2.2.1,sz,cl,YJ (QU H t p).ars (Wt H t p).2.2.1))
theorem HI.mem (h:HI H held s0)(hg:H.ths[t]?=some g):g∈H.ths:=zE hg
theorem HI.own_lt (h:HI H held s0)(t:Nat):H.own t<H.ars.length:=zDP _ (by have:=h.a1;omega)
theorem HI.arn (h:HI H held s0)(t:Nat):H.ars[H.own t]?=some (H.arn t):=by
 have a:=gGe (h.own_lt t);rw[Wij a];exact a
theorem HI.tb40 (h:HI H held s0):H.tb.length<=40:=by
 have a:=h.arn 0;have:=(h.wi.ga _ _ a).tb;rw[h.wi.tb _ _ a]at this;exact this
theorem HI.cls (h:HI H held s0)(hk:k<H.tb.length):∃c,H.tb[k]?=some c/\c.ok:=⟨H.tb[k],gGe hk,h.ok _ (zc hk)⟩
theorem ThI.li {m:Nat}(h:ThI m g)(hk:k<m):∃l,g.ls[k]?=some l/\g.li k=l/\LiOk l/\l.os.length<=128:=by
 have a:=gGe (l:=g.ls) (i:=k) (by rw[h.ll];exact hk);have:=h.lo _ (zc (by rw[h.ll];exact hk));exact⟨_,a,Wj6 a,this.1,this.2⟩
theorem ThI.setL {m:Nat}(h:ThI m g){l':Li}(h1:LiOk l')(h2:l'.os.length<=128):(g.ls.set k l').length=m/\∀l∈g.ls.set k l',LiOk l/\l.os.length<=128:=by
 refine⟨by rw[zBR];exact h.ll,λl a=>?_⟩;rcases zEW a with a|rfl
 ·exact h.lo l a
 ·exact⟨h1,h2⟩
theorem Wol {ls:List Li}{l':Li}{hs:List Bt}{ph:Option Ph}(hk:k<ls.length):(⟨ls.set k l',hs,ph⟩:Th).li k=l':=by
 unfold Th.li;rw[WfD l' k hk,zB rfl]
theorem HI.lvOf (h:HI H held s0){y:Int}(hu:Um held (k:Int) y)(hc:H.tb[k]?=some c):Lv held (y,(y,(c.size:Int),(k:Int),YJ H.ars y)):=by
 obtain⟨p,d,j,e,rfl⟩:=hu;obtain⟨A,g,_⟩:=h.wi.hf p d;obtain⟨c',b,i,_⟩:=h.wi.cls d e g;rw[h.wi.tb _ _ g]at b;have a:H.tb[k]?=some c':=b;rw[hc]at a;cases a;exact⟨rfl,p,d,j,e,rfl,by rw[i],by rw[h.owner0 d]⟩
theorem Wab {ls:List Li}{l:Li}(hl:ls[k]?=some l)(l':Li)(k' x:Int):cnL (ls.set k l') k' x+(if(k:Int)=k' then l.os.count x else 0)=cnL ls k' x+(if(k:Int)=k' then l'.os.count x else 0):=by
 have:=WnU l' (gSi.1 hl).1 k' x;rw[zM,hl]at this;exact this
theorem Wmu {ls:List Li}{l:Li}(hl:ls[k]?=some l)(x:Int):cnL ls (k:Int) x=l.os.count x:=by
 rw[WaW,zM,hl];rfl
theorem Wl9 (h:HI H held s0)(hg:H.ths[t]?=some g)(hph:g.ph=some (.take k)){cl sz:Int}(hr:Rq H.tb g (.take k) cl sz):StI H t (.take k)/\EfM H t (.take k) cl sz:=by
 have N:=(gSi.1 hg).1;have b:=h.th g (h.mem hg);obtain⟨P,z⟩:g.hands=[]/\k<H.tb.length:=by have:=b.ph;unfold PhI at this;rw[hph]at this;exact this
 obtain⟨rfl,c,m,rfl⟩:=hr;have w:=h.ok c (zE m);obtain⟨l,hl,i,L,U⟩:=b.li z;have d:=WfF w L;have j:=GE hg;cases hT:Ka c l with
 | mk o l'=>
  rw[hT]at d;cases o with
  | some y=>
   have C:Wt H t (.take k)=({{H with live:=mset H.live y (y,(c.size:Int),(k:Int),YJ H.ars y)}with ths:=H.ths.set t {g with ls:=g.ls.set k l'}},none,y,0):=by
    simp only[Wt,j,V9 m,i,hT,VF,ZL hg,Th.setL]
   have e:=Z3 N C;have r:1<=cnT g (k:Int) y:=by
    have:=Wfh hT y;rw[zGZ]at this;unfold cnT;rw[Wmu hl];omega
   have Q:=h.um_t (h.mem hg) r;have G:=h.not_live (h.mem hg) r;have u:l'.os.length<=128:=by
    have:l'.os.length<=l.os.length:=by
     unfold Ka at hT;split at hT
     ·cases hT
     ·cases hT;simp
    omega
   obtain⟨ll,K⟩:=b.setL (k:=k) d u;have J:=h.updT hg (g':={g with ls:=g.ls.set k l',ph:=none}) (live':=mset H.live y (y,(c.size:Int),(k:Int),YJ H.ars y)) (λE x=>by
    rw[Wb0 _ G];have D:=Wab hl l' E x;have W:=Wfh hT x;unfold cnT;rw[hph];simp only[cnP];by_cases hkk:(k:Int)=E
    ·simp only[hkk,zS]at D ⊢;omega
    ·simp only[hkk,zt]at D ⊢;omega)
    (Go.Vc.mset_keys h.lk) (λR B=>by
     rcases(Wct G).1 B with B|rfl
     ·exact .inl B
     ·exact .inr (h.lvOf Q m))
    (λs a F=>by cases F) ⟨ll,K,b.hb,b.hl,by unfold PhI;exact P⟩
   refine⟨StI.mk' hg b.hl ⟨z,λS M p=>?_⟩ e J (KS.refl _),.inr (.inr ?_)⟩
   ·rw[j,i,V9 m,hT]at p;cases p;exact(h.i63 Q).1
   ·rw[e,C];exact⟨rfl,rfl,G,rfl⟩
  | none=>
   have C:Wt H t (.take k)=({H with ths:=H.ths.set t {g with ls:=g.ls.set k l'}},some (.transfer k (Wav c l')),0,0):=by
    simp only[Wt,j,V9 m,i,hT,ZL hg,Th.setL]
   have e:=Z3 N C;obtain⟨o1,o2⟩:=Wh7 hT;obtain⟨ll,K⟩:=b.setL (k:=k) d (by rw[o2];simp);have A:=d.lim1;have V:1<=Wav c l'/\Wav c l'<=32:=by
    unfold Cls.ok at w;unfold Wav;simp only at A;omega
   have J:=h.updT hg (g':={g with ls:=g.ls.set k l',ph:=some (.transfer k (Wav c l'))}) (live':=H.live) (λE x=>by
    have D:=Wab hl l' E x;rw[o1,o2]at D;unfold cnT;rw[hph];simp only[cnP];omega) h.lk (λR B=>.inl B) (λs a F=>by cases F) ⟨ll,K,b.hb,b.hl,by
     unfold PhI;exact⟨P,z,by rw[Wol (by rw[b.ll];exact z)];exact o2,V⟩⟩
   refine⟨StI.mk' hg b.hl ⟨z,λS M p=>?_⟩ e J (KS.refl _),.inl ?_⟩
   ·rw[j,i,V9 m,hT]at p;cases p
   ·rw[e,C];exact⟨_,_,rfl,rfl,zL N,⟨rfl,c,m,rfl⟩,by simp[Wam]⟩
theorem GM (h:GA A)(h0:Z6 A (k:Int)=0)(hc:A.tb[k]?=some c):∃x xs,YL A (k:Int)=x::xs/\xs.length+1=c.batch:=by
 have a:YL A (k:Int)=(match A.tra[k]? with
  | some t=>t.bs.getLast?.getD []
  | none=>[]):=by unfold YL;rw[zB h0,iTn];rfl
 unfold Z6 at h0;rw[iTn]at h0;split at h0
 ·split at h0
  ·rename_i t ht;split at h0
   ·cases h0
   ·rename_i hb;rw[ht]at a;simp only at a;have m:t.bs.getLast?=some (t.bs.getLast hb):=List.getLast?_eq_some_getLast hb;rw[m]at a;simp only[zBU]at a;have:=h.trb k c t hc ht _ (List.getLast_mem hb);rw[←a]at this;have j:=h.cen;cases hx:YL A (k:Int)with
    | nil=>
     rw[hx]at this;have d:k<A.tb.length:=(gSi.1 hc).1;obtain⟨g,i,_,b,_⟩:=h.cl d;have e:g=c:=Option.some.inj (b.1.symm.trans hc);have:=(h.cen k g i b).ok;unfold Cls.ok at this;simp at *;subst e;omega
    | cons x xs=>exact⟨x,xs,rfl,by rw[hx]at this;simpa using this⟩
  ·cases h0
 ·cases h0
theorem Wej (h:HI H held s0)(hg:H.ths[t]?=some g){w:Nat}(hph:g.ph=some (.transfer k w)){cl sz:Int}(hr:Rq H.tb g (.transfer k w) cl sz):StI H t (.transfer k w)/\EfM H t (.transfer k w) cl sz:=by
 have C:=(gSi.1 hg).1;have d:=h.th g (h.mem hg);obtain⟨F,B,r,V⟩:g.hands=[]/\k<H.tb.length/\(g.li k).os=[]/\1<=w/\w<=32:=by have:=d.ph;unfold PhI at this;rw[hph]at this;exact this
 obtain⟨rfl,c,i,rfl⟩:=hr;have J:=h.ok c (zE i);have u:=J;unfold Cls.ok at u;have D:=h.arn t;have ga:=h.wi.ga _ _ D;have p:(H.arn t).tb[k]?=some c:=by rw[h.wi.tb _ _ D];exact i
 have L:WgG H t (.transfer k w):=⟨B,λA=>by
  obtain⟨x,z,e,_⟩:=GM ga A p;rw[e];simp⟩
 by_cases hcase:w=c.batch/\Z6 (H.arn t) (k:Int)=0
 ·obtain⟨rfl,A⟩:=hcase;obtain⟨x,z,M,S⟩:=GM ga A p;have m:Wt H t (.transfer k c.batch)=({H.setA (H.own t) (ZQ (H.arn t) (k:Int))with ths:=H.ths.set t {g with hands:=[(k,x::z)]}},some .fill,0,0):=by
   simp only[Wt,V9 i,zS,A,QV,M];rw[ZL (g:=g) (by exact hg),F];rfl
  have e:=Z3 (H1:=H.setA (H.own t) (ZQ (H.arn t) (k:Int))) C m;obtain⟨U,W,X,Q⟩:=WmW h.wi D (j:=k);have wi:=h.wi.fromT D (k:Int);have G:=h.upd hg (g':={g with hands:=[(k,x::z)],ph:=some .fill}) (live':=H.live) wi h.sim rfl (by simp[Wd.put]) Q (λR y=>by
   rw[WeR W (λy N=>U y N _) X,M];unfold cnT;rw[hph,F];simp only[cnP,Kx,VG];omega) h.lk (λP K=>.inl K) (λs a E=>by cases E) ⟨d.ll,d.lo,λb hb=>by
    simp only[zV]at hb;subst hb;exact⟨B,by simp,by simp;omega⟩,by simp,by
    unfold PhI;exact⟨k,x,z,rfl,B,r,O⟩⟩
  refine⟨StI.mk' hg d.hl L e G (KS.refl _),.inl ?_⟩;rw[e,m];exact⟨_,_,rfl,rfl,zL C,⟨k,x::z,[],c,rfl,rfl,i,rfl⟩,by simp[Wam]⟩
 ·have m:Wt H t (.transfer k w)=({H with ths:=H.ths.set t g},some (.central k w),0,0):=by
   have:H.ths.set t g=H.ths:=Qj hg;rw[this];simp only[Wt,V9 i];split
   ·split
    ·exact(hcase ⟨by assumption,by assumption⟩).elim
    ·rfl
   ·rfl
  have e:=Z3 C m;have G:=h.updT hg (g':={g with ph:=some (.central k w)}) (live':=H.live) (λR x=>by
   unfold cnT;rw[hph];simp only[cnP]) h.lk (λP K=>.inl K) (λs a E=>by cases E) ⟨d.ll,d.lo,d.hb,d.hl,by
    unfold PhI;exact⟨F,B,r,V⟩⟩
  refine⟨StI.mk' hg d.hl L e G (KS.refl _),.inl ?_⟩;rw[e,m];refine⟨_,_,rfl,rfl,zL C,⟨rfl,c,i,rfl⟩,?_⟩;simp only[Wam];split<;>omega
theorem WdD (h:GA A)(j w:Nat):(Yt A (j:Int) (w:Int)).length<=w:=by
 unfold Yt;split
 ·rename_i h0;have b:A.ck (j:Int)=true:=by
   unfold QI at h0;split at h0
   ·assumption
   ·cases h0
  obtain⟨i,m,e⟩:=HN.1 b;obtain⟨c,d,t,a,g⟩:=h.cl e;have:i=j:=by omega
  subst this;unfold Vs;rw[iTn,iTn,a.1,a.2];exact(HR w (h.cen i c d a)).2.2.1
 ·simp
theorem Wlb (H:Hw)(t:Nat)(B:AR)(h:H.own t<H.ars.length)(sp:Sp)(ths:List Th):Hw.arn {H.setA (H.own t) B with sp:=sp,ths:=ths} t=B:=by
 refine Wij ?_;have:Hw.own {H.setA (H.own t) B with sp:=sp,ths:=ths} t=H.own t:=by unfold Hw.own Hw.setA;simp
 rw[this];simp[Hw.setA,h]
theorem Wgj (h:HI H held s0)(hg:H.ths[t]?=some g){w:Nat}(hph:g.ph=some (.central k w)){cl sz:Int}(hr:Rq H.tb g (.central k w) cl sz):StI H t (.central k w)/\EfM H t (.central k w) cl sz:=by
 have C:=(gSi.1 hg).1;have d:=h.th g (h.mem hg);obtain⟨D,F,u,Q⟩:g.hands=[]/\k<H.tb.length/\(g.li k).os=[]/\1<=w/\w<=32:=by have:=d.ph;unfold PhI at this;rw[hph]at this;exact this
 obtain⟨rfl,c,K,rfl⟩:=hr;have L:=h.arn t;have ga:=h.wi.ga _ _ L;have wi:=h.wi.from L (k:Int) (w:Int);have i:=WdD ga k w;have A:=(WbK ga (k:Int) (w:Int)).2.2.1;cases hv:Yt (H.arn t) (k:Int) (w:Int)with
 | nil=>
  have r:Wt H t (.central k w)=({H.setA (H.own t) (YQ (H.arn t) (k:Int) (w:Int))with ths:=H.ths.set t g},some (.grow k w),0,0):=by
   have:H.ths.set t g=H.ths:=Qj hg;rw[this];simp only[Wt,hv,zS,Hw.setA]
  have e:=Z3 (H1:=H.setA (H.own t) (YQ (H.arn t) (k:Int) (w:Int))) C r;rw[hv]at wi;simp only[zCC,zy]at wi;have E:=h.upd hg (g':={g with ph:=some (.grow k w)}) (live':=H.live) wi h.sim rfl (by simp[Wd.put]) (λp j _=>.inl j) (λN y=>by
   unfold cnT;rw[hph];simp only[cnP]) h.lk (λM G=>.inl G) (λs a j=>by cases j) ⟨d.ll,d.lo,d.hb,d.hl,by
    unfold PhI;exact⟨D,F,u,Q⟩⟩
  refine⟨StI.mk' hg d.hl trivial e E (KS.refl _),.inl ?_⟩;rw[e,r];exact⟨_,_,rfl,rfl,zL C,⟨rfl,c,K,rfl⟩,by simp[Wam,hv]⟩
 | cons v vs=>
  have r:Wt H t (.central k w)=({H.setA (H.own t) (YQ (H.arn t) (k:Int) (w:Int))with ths:=H.ths.set t {g with hands:=[(k,(v::vs).map λ(x:Nat)=>(x:Int))]}},some .fill,0,0):=by
   simp only[Wt,hv,QV];rw[zA aA,ZL (g:=g) (by exact hg),D];rfl
  have e:=Z3 (H1:=H.setA (H.own t) (YQ (H.arn t) (k:Int) (w:Int))) C r;rw[hv]at wi i A;have B:((v::vs).map λ(x:Nat)=>(x:Int)).Nodup:=List.Pairwise.map (R:=(· ≠ ·)) _ (λa b J e=>J O) A;have app:=WlJ (held:=held) (new:=(v::vs).map λy=>(⟨H.own t,(k:Int),y,szOf H.tb (k:Int),false⟩:Pc)) (cl:=(k:Int)) (l:=(v::vs).map λ(x:Nat)=>(x:Int)) (λp j=>by
   obtain⟨y,m,rfl⟩:=zC.1 j;exact⟨rfl,rfl,zC.2 ⟨y,m,rfl⟩⟩) λx P=>by
   obtain⟨y,m,rfl⟩:=zC.1 P;exact⟨_,zC.2 ⟨y,m,rfl⟩,rfl⟩
  have new:=WjG wi;have E:=h.upd hg (g':={g with hands:=[(k,(v::vs).map λ(x:Nat)=>(x:Int))],ph:=some .fill}) (live':=H.live) wi h.sim rfl (by simp[Wd.put]) (Whh wi) (λN y=>by
   rw[WeR B (λy m=>by
    obtain⟨z,S,rfl⟩:=zC.1 m;exact new ⟨H.own t,(k:Int),z,szOf H.tb (k:Int),false⟩ (zC.2 ⟨z,S,rfl⟩) _) app]
   unfold cnT;rw[hph,D];simp only[cnP,Kx,VG];omega) h.lk (λM G=>.inl G) (λs a j=>by cases j) ⟨d.ll,d.lo,λb hb=>by
    simp only[zV]at hb;subst hb;exact⟨F,by simp,by simp at i ⊢;omega⟩,by simp,by
    unfold PhI;exact⟨k,(v:Int),vs.map λ(x:Nat)=>(x:Int),rfl,F,u,by simp at i ⊢;omega⟩⟩
  refine⟨StI.mk' hg d.hl trivial e E (KS.refl _),.inl ?_⟩;rw[e,r];refine⟨_,_,rfl,rfl,zL C,⟨k,_,[],c,rfl,rfl,K,rfl⟩,?_⟩;simp[Wam,hv]
theorem Wny (h:HI H held s0)(hg:H.ths[t]?=some g){w:Nat}(hph:g.ph=some (.grow k w)){cl sz:Int}(hr:Rq H.tb g (.grow k w) cl sz):StI H t (.grow k w)/\EfM H t (.grow k w) cl sz:=by
 have x:=(gSi.1 hg).1;have b:=h.th g (h.mem hg);obtain⟨D,J,B,E⟩:g.hands=[]/\k<H.tb.length/\(g.li k).os=[]/\1<=w/\w<=32:=by have:=b.ph;unfold PhI at this;rw[hph]at this;exact this
 obtain⟨rfl,c,L,rfl⟩:=hr;have C:=h.arn t;have ga:=h.wi.ga _ _ C;obtain⟨z,G,F,r⟩:=h.sim.growS (H.arn t) (k:Int);have wi:=h.wi.grow C (k:Int);by_cases h0:KP (H.arn t) H.sp (k:Int)=0
 ·have m:Wt H t (.grow k w)=({{H.setA (H.own t) (growS (H.arn t) H.sp (k:Int)).1 with sp:=(growS (H.arn t) H.sp (k:Int)).2}with ths:=H.ths.set t g},some (.central k w),0,0):=by
   have:H.ths.set t g=H.ths:=Qj hg;rw[this];simp only[Wt,h0,zS,Hw.setA]
  have e:=Z3 (H1:={H.setA (H.own t) (growS (H.arn t) H.sp (k:Int)).1 with sp:=(growS (H.arn t) H.sp (k:Int)).2}) x m;have d:=WiX ga (h.wi.ow _ _ C) (j:=k) (by rw[←G];exact h0) E.1;rw[show(Wd.mk H.tb s0 H.ars held).sp=s0 from rfl,←z]at d;rw[show(Wd.mk H.tb s0 H.ars held).sp=s0 from rfl,←z]at wi;have A:=h.upd hg (g':={g with ph:=some (.central k w)}) (live':=H.live) wi F r.l (by simp[Wd.put]) (λp i _=>.inl i) (λK y=>by
   unfold cnT;rw[hph];simp only[cnP]) h.lk (λM u=>.inl u) (λs a i=>by cases i) ⟨b.ll,b.lo,b.hb,b.hl,by
    unfold PhI;exact⟨D,J,B,E⟩⟩
  refine⟨StI.mk' hg b.hl trivial e A r,.inl ?_⟩;rw[e,m];refine⟨_,_,rfl,rfl,zL x,⟨rfl,c,L,rfl⟩,?_⟩;have:=Wlb H t (growS (H.arn t) H.sp (k:Int)).1 (h.own_lt t) (growS (H.arn t) H.sp (k:Int)).2 (H.ths.set t {g with ph:=some (.central k w)});simp only[Wam];rw[this,zA d];omega
 ·have m:Wt H t (.grow k w)=({{H.setA (H.own t) (growS (H.arn t) H.sp (k:Int)).1 with sp:=(growS (H.arn t) H.sp (k:Int)).2}with ths:=H.ths.set t g},none,0,KP (H.arn t) H.sp (k:Int)):=by
   have:H.ths.set t g=H.ths:=Qj hg;rw[this];simp only[Wt,h0,zt,Hw.setA]
  have e:=Z3 (H1:={H.setA (H.own t) (growS (H.arn t) H.sp (k:Int)).1 with sp:=(growS (H.arn t) H.sp (k:Int)).2}) x m;rw[show(Wd.mk H.tb s0 H.ars held).sp=s0 from rfl,←z]at wi;have A:=h.upd hg (g':={g with ph:=none}) (live':=H.live) wi F r.l (by simp[Wd.put]) (λp i _=>.inl i) (λK y=>by
   unfold cnT;rw[hph];simp only[cnP]) h.lk (λM u=>.inl u) (λs a i=>by cases i) ⟨b.ll,b.lo,b.hb,b.hl,by
    unfold PhI;exact D⟩
  refine⟨StI.mk' hg b.hl trivial e A r,.inr (.inl ?_)⟩;rw[e,m];exact⟨rfl,h0,rfl,rfl⟩
theorem Wnq (h:HI H held s0)(hg:H.ths[t]?=some g)(hph:g.ph=some .fill){cl sz:Int}(hr:Rq H.tb g .fill cl sz):StI H t .fill/\EfM H t .fill cl sz:=by
 have P:=(gSi.1 hg).1;have i:=h.th g (h.mem hg);obtain⟨k,x,xs,w,G,d,Q⟩:∃k x xs,g.hands=[(k,x::xs)]/\k<H.tb.length/\(g.li k).os=[]/\xs.length<=128:=by have:=i.ph;unfold PhI at this;rw[hph]at this;exact this
 obtain⟨k',X,r,c,z,rfl,F,rfl⟩:=hr;rw[w]at z;obtain⟨j, -⟩:=List.cons.inj z;obtain rfl:k=k':=congrArg Prod.fst j;obtain⟨l,hl,p,C,S⟩:=i.li G;have u:=GE hg;rw[p]at d;have m:(addL xs.reverse l).os=xs.reverse:=by unfold addL;rw[d,zA aE];simp
 have K:Wt H t .fill=({{H with live:=mset H.live x (x,(c.size:Int),(k:Int),YJ H.ars x)}with ths:=H.ths.set t {ls:=g.ls.set k (addL xs.reverse l),hands:=[],ph:=g.ph}},none,x,0):=by
  simp only[Wt,u,w,V9 F,VF,ZL hg,p]
 have e:=Z3 P K;have A:1<=cnT g (k:Int) x:=by
  unfold cnT;rw[w,Kx,zB rfl];have:1<=(x::xs).count x:=zGY.2 aA;simp only;omega
 have J:=h.um_t (h.mem hg) A;have B:=h.not_live (h.mem hg) A;obtain⟨R,N⟩:=i.setL (k:=k) (Wb9 (xs:=xs.reverse) C) (by rw[m];simp;omega);have M:=h.updT hg (g':={ls:=g.ls.set k (addL xs.reverse l),hands:=[],ph:=none}) (live':=mset H.live x (x,(c.size:Int),(k:Int),YJ H.ars x)) (λk' y=>by
  rw[Wb0 _ B];have D:=Wab hl (addL xs.reverse l) k' y;rw[d,m,List.count_reverse,List.count_nil]at D;have V:(x::xs).count y=[x].count y+xs.count y:=zEF (l₁:=[x]) (l₂:=xs);unfold cnT;rw[hph,w];simp only[cnP,Kx,VG];by_cases j:(k:Int)=k'
  ·simp only[j,zS]at D ⊢;omega
  ·simp only[j,zt]at D ⊢;omega)
  (Go.Vc.mset_keys h.lk) (λW E=>by
   rcases(Wct B).1 E with E|rfl
   ·exact .inl E
   ·exact .inr (h.lvOf J F))
  (λs a L=>by cases L) ⟨R,N,λb U=>by simp at U,by simp,by unfold PhI;rfl⟩
 refine⟨StI.mk' hg i.hl ⟨k,x,xs,[],by rw[u];exact w,G,(h.i63 J).1,by rw[u,p,d];simp;omega⟩ e M (KS.refl _),.inr (.inr ?_)⟩;rw[e,K];exact⟨rfl,rfl,B,rfl⟩
theorem WkP (h:HI H held s0)(hg:H.ths[t]?=some g){m:Nat}(hph:g.ph=some (.large m)){cl sz:Int}(hr:Rq H.tb g (.large m) cl sz):StI H t (.large m)/\EfM H t (.large m) cl sz:=by
 have N:=(gSi.1 hg).1;have b:=h.th g (h.mem hg);obtain⟨L,S,W⟩:g.hands=[]/\1<=m/\m<=64:=by have:=b.ph;unfold PhI at this;rw[hph]at this;exact this
 obtain⟨rfl,rfl⟩:=hr;have P:=h.arn t;have ga:=h.wi.ga _ _ P;obtain⟨R,Q,X,M,B⟩:=h.sim.takeAS (H.arn t) (m:Int) 1;have wi:=h.wi.takeP P (m:Int) 1;rw[show(Wd.mk H.tb s0 H.ars held).sp=s0 from rfl,←R,←Q,←X]at wi;by_cases h0:Qz (H.arn t) H.sp (m:Int) 1=0
 ·rw[zB h0]at wi;have j:=WjG wi;have u:=WlJ (held:=held) (new:=[(⟨H.own t, -1,Z5 (H.arn t) H.sp (m:Int) 1*256,(m:Int).toNat*256,false⟩:Pc)]) (cl:=-1) (l:=[((Z5 (H.arn t) H.sp (m:Int) 1*256:Nat):Int)]) (λp d=>by
   simp only[zV]at d;subst d;exact⟨rfl,rfl,by simp⟩) λx D=>by
   simp only[zV]at D;subst D;exact⟨_,zV.2 rfl,rfl⟩
  have i:(⟨H.own t, -1,Z5 (H.arn t) H.sp (m:Int) 1*256,(m:Int).toNat*256,false⟩:Pc)∈held++[(⟨H.own t, -1,Z5 (H.arn t) H.sp (m:Int) 1*256,(m:Int).toNat*256,false⟩:Pc)]:=by simp
  have F:=wi.size_pos i;have w:=wi.addr_lt i;have G:=wi.owner i (x:=Z5 (H.arn t) H.sp (m:Int) 1*256) (zD _) (by simp only at F ⊢;omega);generalize C:Z5 (H.arn t) H.sp (m:Int) 1=V at *;have r:mget H.live ((V*256:Nat):Int)=none:=h.not_um λJ Y=>j _ (zV.2 rfl) J Y;have A:Wt H t (.large m)=({{H.setA (H.own t) (takeAS (H.arn t) H.sp (m:Int) 1).1 with sp:=(takeAS (H.arn t) H.sp (m:Int) 1).2,live:=mset H.live ((V*256:Nat):Int) (((V*256:Nat):Int),((m*256:Nat):Int), -1,YJ (H.ars.set (H.own t) (takeAS (H.arn t) H.sp (m:Int) 1).1) ((V*256:Nat):Int))}with ths:=H.ths.set t g},none,((V*256:Nat):Int),0):=by
   have:H.ths.set t g=H.ths:=Qj hg;rw[this];simp only[Wt,h0,zS,Hw.setA,VF,C]
  have e:=Z3 (H1:={H.setA (H.own t) (takeAS (H.arn t) H.sp (m:Int) 1).1 with sp:=(takeAS (H.arn t) H.sp (m:Int) 1).2,live:=mset H.live ((V*256:Nat):Int) (((V*256:Nat):Int),((m*256:Nat):Int), -1,YJ (H.ars.set (H.own t) (takeAS (H.arn t) H.sp (m:Int) 1).1) ((V*256:Nat):Int))}) N A;have E:=h.upd hg (g':={g with ph:=none}) (live':=mset H.live ((V*256:Nat):Int) (((V*256:Nat):Int),((m*256:Nat):Int), -1,YJ (H.ars.set (H.own t) (takeAS (H.arn t) H.sp (m:Int) 1).1) ((V*256:Nat):Int))) wi M B.l (by simp[Wd.put]) (Whh wi) (λJ y=>by
   rw[Wb0 _ r,WeR (l:=[((V*256:Nat):Int)]) (cl:=-1) aA (λy K=>by
    simp only[zV]at K;subst K;exact j _ (zV.2 rfl) _) u]
   unfold cnT;rw[hph];simp only[cnP];omega) (Go.Vc.mset_keys h.lk) (λU z=>by
    rcases(Wct r).1 z with z|rfl
    ·exact .inl z
    ·refine .inr ⟨rfl,_,i,rfl,rfl,rfl,?_,?_⟩
     ·simp
     ·exact G) (λs a d=>by cases d) ⟨b.ll,b.lo,b.hb,b.hl,by
    unfold PhI;exact L⟩
  refine⟨StI.mk' hg b.hl ?_ e E B,.inr (.inr ?_)⟩
  ·show Z5 (H.arn t) H.sp (m:Int) 1<=1000000;rw[C];simp only at w;omega
  ·rw[e,A];exact⟨rfl,rfl,r,rfl⟩
 ·rw[zA h0]at wi;have C:Z5 (H.arn t) H.sp (m:Int) 1=0:=by
   unfold Qz at h0;unfold Z5;split
   ·rename_i d;rw[d,zB rfl]at h0;split at h0
    ·exact(h0 rfl).elim
    ·rename_i hn;cases D:(getA (H.arn t) H.sp (m:Int).toNat (1:Int).toNat 41).1 with
     | none=>rfl
     | some y=>rw[D]at hn;simp at hn
   ·rfl
  have A:Wt H t (.large m)=({{H.setA (H.own t) (takeAS (H.arn t) H.sp (m:Int) 1).1 with sp:=(takeAS (H.arn t) H.sp (m:Int) 1).2}with ths:=H.ths.set t g},none,0,Qz (H.arn t) H.sp (m:Int) 1):=by
   have:H.ths.set t g=H.ths:=Qj hg;rw[this];simp only[Wt,h0,zt,Hw.setA]
  have e:=Z3 (H1:={H.setA (H.own t) (takeAS (H.arn t) H.sp (m:Int) 1).1 with sp:=(takeAS (H.arn t) H.sp (m:Int) 1).2}) N A;have E:=h.upd hg (g':={g with ph:=none}) (live':=H.live) wi M B.l (by simp[Wd.put]) (λp d _=>.inl d) (λJ y=>by
   unfold cnT;rw[hph];simp only[cnP]) h.lk (λU z=>.inl z) (λs a d=>by cases d) ⟨b.ll,b.lo,b.hb,b.hl,by
    unfold PhI;exact L⟩
  refine⟨StI.mk' hg b.hl ?_ e E B,.inr (.inl ?_)⟩
  ·show Z5 (H.arn t) H.sp (m:Int) 1<=1000000;rw[C];omega
  ·rw[e,A];exact⟨rfl,h0,rfl,rfl⟩
theorem Wog {W:Wd}(h:WI W)(hk:W.ars[k]?=some A){j:Nat}{l:List Int}(hl:∀x∈l,∃p∈W.held,isAt k (j:Int) x p=true)(hn:l.Nodup)(hj:j<W.tb.length):QW A (j:Int) l=0/\WI (W.put k (Ze A (j:Int) l) W.sp (W.held.filter λp=>!isOf k (j:Int) l p)):=by
 have ga:=h.ga k A hk;have g:ownW W.held k (j:Int) l=true:=KD.2 ⟨hl,hn⟩;obtain⟨c,y,_,d,_⟩:=ga.cl (k:=j) (by rw[h.tb k A hk];exact hj);have e:QW A (j:Int) l=0:=by
  rw[Gb ga d];refine Wi8 ⟨λx u=>?_,hn⟩;obtain⟨p,r,b⟩:=hl x u;obtain⟨m,i,s,w⟩:=Kz.1 b;obtain⟨_,_,_,a,_⟩:=h.cls r i (by rw[m];exact hk);rw[s]at a;exact(KR d).1 a
 refine⟨e,?_⟩;have:=h.toC hk g;rw[zB e,h.drp g]at this;exact this
theorem WdN {xs:List Int}{tb:List Cls}{ars0:List AR}(hH:H.tb=tb)(h:WI ⟨tb,s0,H.ars,held⟩)(hk:k<tb.length)(hxs:∀x∈xs,Um held (k:Int) x)(hn:xs.Nodup)(ha:∀p∈held,YJ ars0 (p.addr:Int)=(p.k:Int)):∀j,j<=H.ars.length →
 ∃ars',Vb H k (ZW ars0 xs) (List.range j) = {H with ars:=ars'}/\ars'.length=H.ars.length/\WI ⟨tb,s0,ars',held.filter λp=>!(decide (p.k<j)&&(p.cls==(k:Int)&&xs.contains (p.addr:Int)))⟩
 | 0,_=>by
  refine⟨H.ars,rfl,rfl,?_⟩;have:(held.filter λp=>!(decide (p.k<0)&&(p.cls==(k:Int)&&xs.contains (p.addr:Int))))=held:=zBK.2 λp _=>by simp
  rw[this];exact h
 | j+1,hj=>by
  obtain⟨ars',e,u,m⟩:=WdN hH h hk hxs hn ha j O;rw[Vm,e];have w:ars'[j]?=some (ars'[j]' O):=gGe _;simp only[w];have Wcp:∀{p:Pc},p∈held->p.k=j->((p.addr:Int)∈ZW ars0 xs j↔(p.addr:Int)∈xs):=λ{p} b a=>by
   unfold ZW;rw[zH,ha p b,a];simp
  have d:((held.filter λp=>!(decide (p.k<j)&&(p.cls==(k:Int)&&xs.contains (p.addr:Int)))).filter λp=>!isOf j (k:Int) (ZW ars0 xs j) p)=held.filter λp=>!(decide (p.k<j+1)&&(p.cls==(k:Int)&&xs.contains (p.addr:Int))):=by
   rw[zGE];apply zFG;intro p b;have B:isOf j (k:Int) (ZW ars0 xs j) p=(p.k==j&&(p.cls==(k:Int)&&xs.contains (p.addr:Int))):=by
    unfold isOf;by_cases a:p.k=j
    ·have:=Wcp b a;have y:(ZW ars0 xs j).contains (p.addr:Int)=xs.contains (p.addr:Int):=by
      rw[zBD,zDC,zDC];exact this
     rw[y]
    ·have:(p.k==j)=false:=by simpa using a
     rw[this];rfl
   rw[B];have C:decide (p.k<j+1)=(decide (p.k<j)||p.k==j):=by
    rw[zBD];simp;omega
   rw[C];cases p.k==j<;>cases decide (p.k<j)<;>cases(p.cls==(k:Int)&&xs.contains (p.addr:Int))<;>rfl
  by_cases b:ZW ars0 xs j=[]
  ·rw[zB b];refine⟨ars',rfl,u,?_⟩;rw[←d,b];have:∀p:Pc,(!isOf j (k:Int) [] p)=true:=λp=>by simp[isOf]
   rw[zBK.2 λp _=>this p];exact m
  ·rw[zA b];refine⟨ars'.set j (Ze (ars'[j]' O) (k:Int) (ZW ars0 xs j)),by simp[Hw.setA],by simp[u],?_⟩;rw[←d];refine(Wog m w (j:=k) (l:=ZW ars0 xs j) (λx r=>?_) (hn.sublist zCT) hk).2;unfold ZW at r;obtain⟨i,g⟩:=zH.1 r;obtain⟨p,b,A,z,s⟩:=hxs x i;have a:p.k=j:=by
    have:=ha p b;rw[s]at this;rw[this]at g;have:(p.k:Int)=(j:Int):=by simpa using g
    omega
   exact⟨p,zH.2 ⟨b,by simp[a]⟩,Kz.2 ⟨a,z,s,A⟩⟩
theorem Wlx {tb:List Cls}(hH:H.tb=tb)(h:WI ⟨tb,s0,H.ars,held⟩){own:Nat}(hown:own<H.ars.length)(hk:k<tb.length){xs:List Int}(hxs:∀x∈xs,Um held (k:Int) x)(hn:xs.Nodup) :
 ∃ars' held',Gh H own k xs = {H with ars:=ars'}/\ars'.length=H.ars.length/\WI ⟨tb,s0,ars',held'⟩/\(∀c x,Um held' c x↔Um held c x/\¬(c=(k:Int)/\x∈xs))/\∀p∈held',p.moved=false->p∈held:=by
 have s:H.ars[own]?=some H.ars[own]:=gGe hown;have y:∀p∈held,YJ H.ars (p.addr:Int)=(p.k:Int):=λp a=>h.owner a (zD _) (by have:=(h.size_pos a).1;omega);have all:∃ars' held',Vb H k (ZW H.ars xs) (List.range H.ars.length) = {H with ars:=ars'}/\ars'.length=H.ars.length/\WI ⟨tb,s0,ars',held'⟩/\(∀c x,Um held' c x↔Um held c x/\¬(c=(k:Int)/\x∈xs))/\∀p∈held',p.moved=false->p∈held:=by
  obtain⟨ars',e,r,j⟩:=WdN hH h hk hxs hn y H.ars.length (zD _);refine⟨ars',_,e,r,j,λc x=>?_,λp a _=>(zH.1 a).1⟩;constructor
  ·rintro⟨p,a,i,g,d⟩;obtain⟨a,hf⟩:=zH.1 a;refine⟨⟨p,a,i,g,d⟩,?_⟩;rintro⟨rfl,b⟩;obtain⟨B,z,_⟩:=h.hf p a;have u:p.k<H.ars.length:=(gSi.1 z).1;rw[g,d]at hf;simp[u,b]at hf
  ·rintro⟨⟨p,a,i,g,d⟩,hno⟩;refine⟨p,zH.2 ⟨a,?_⟩,i,g,d⟩;rw[g,d];by_cases hc:c=(k:Int)
   ·have:x∉xs:=λb=>hno ⟨hc,b⟩;simp[this]
   ·simp[hc]
 unfold Gh;rw[s];simp only;by_cases hcond:(ZW H.ars xs own).length=xs.length/\Vi H.ars[own] (k:Int) xs=true
 ·rw[zB hcond];have m:∀x∈xs,YJ H.ars x=(own:Int):=by
   have i:ZW H.ars xs own=xs:=by
    unfold ZW at hcond ⊢;exact List.filter_sublist.eq_of_length hcond.1
   intro x b;rw[←i]at b;unfold ZW at b;simpa using(zH.1 b).2
  have w:ownW held own (k:Int) xs=true:=KD.2 ⟨λx b=>by
   obtain⟨p,a,i,g,d⟩:=hxs x b;have A:=y p a;rw[d,m x b]at A;exact⟨p,a,Kz.2 ⟨O,g,d,i⟩⟩,hn⟩
  have j:=h.toT s w;rw[zB hcond.2]at j;exact⟨_,_,rfl,by simp[Hw.setA],j,WjR h w,Wht⟩
 ·rw[zA hcond];have e:(if(ZW H.ars xs own).length=xs.length then H.setA own (Q9 H.ars[own] (k:Int) xs)else H)=H:=by
   split
   ·rename_i r;have C:Vi H.ars[own] (k:Int) xs=false:=by
     apply zAT.2;intro b;exact hcond ⟨r,b⟩
    have:Q9 H.ars[own] (k:Int) xs=H.ars[own]:=by unfold Q9;rw[C];rfl
    rw[this];exact Wc1 s
   ·rfl
  rw[e];exact all
def isF:Ph->Prop
 | .find _=>True
 | .put _ _=>True
 | .back=>True
 | .give _ _=>True
 | .drain=>True
 | _=>False
def Wbi (g:Th):Ph->Nat
 | .find _=>101
 | .put _ _=>100
 | .drain=>100
 | .back=>g.hands.length
 | _=>0
def EfF (H:Hw)(t:Nat)(g:Th)(p:Ph):Prop:=(Wt H t p).2.2.1=0 ∧
 ((∃p' g',(Wt H t p).2.1=some p'/\isF p'/\(∀x,p'≠.find x)/\(QU H t p).ths[t]?=some g'/\Wbi g' p'<Wbi g p)\/(Wt H t p).2.1=none) ∧
 ((∀x,p≠.find x)->(Wt H t p).2.2.2=0/\(QU H t p).live=H.live) ∧
 (∀x,p=.find x->(mget H.live x=none->(Wt H t p).2.1=none/\(Wt H t p).2.2.2≠0/\(QU H t p).live=H.live)/\(∀b,mget H.live x=some b->(Wt H t p).2.2.2=0/\(QU H t p).live=mdel H.live x))
theorem WeJ (hg:H.ths[t]?=some g):retH H t=if g.hands=[]then none else some .back:=by unfold retH;rw[hg]
theorem WnO (h:HI H held s0)(hg:H.ths[t]?=some g){x:Int}(hph:g.ph=some (.find x)):StI H t (.find x)/\EfF H t g (.find x):=by
 have K:=(gSi.1 hg).1;have d:=h.th g (h.mem hg);obtain⟨P,C⟩:g.hands=[]/\I63 x:=by have:=d.ph;unfold PhI at this;rw[hph]at this;exact this
 have Q:∀A∈H.ars,RunsOk A:=λA V=>by
  obtain⟨j,hj⟩:=zN V;exact(h.wi.ga j A hj).runsOk
 cases hm:mget H.live x with
 | none=>
  have z:Wt H t (.find x)=({H with ths:=H.ths.set t g},none,0,whyH H x):=by
   have:H.ths.set t g=H.ths:=Qj hg;rw[this];simp only[Wt,U8,hm]
  have e:=Z3 K z;have F:=h.updT hg (g':={g with ph:=none}) (live':=H.live) (λL x=>by
   unfold cnT;rw[hph];simp only[cnP]) h.lk (λX J=>.inl J) (λs a N=>by cases N) ⟨d.ll,d.lo,d.hb,d.hl,by
    unfold PhI;exact P⟩
  refine⟨StI.mk' hg d.hl ⟨C,λ_=>Q,λb hb=>by rw[hm]at hb;cases hb⟩ e F (KS.refl _),?_⟩;unfold EfF;rw[e,z];refine⟨rfl,.inr rfl,λi=>(i x rfl).elim,λy m=>?_⟩;cases m;refine⟨λ_=>⟨rfl,?_,rfl⟩,(λb hb=>by rw[hm]at hb;cases hb)⟩;show whyH H x≠0;unfold whyH
  repeat' split
  all_goals simp
 | some b=>
  have S:=KU hm;obtain⟨_,p,N,h1,R,W,h4,Z⟩:=h.lv _ S;simp only at R W h4 Z;have U:0<=x:=by omega
  obtain⟨A,V,hd⟩:=h.wi.hf p N;have Y:WgG H t (.find x):=⟨C,(λi=>by rw[hm]at i;cases i),λ_ _=>U⟩;rcases hd with⟨c1,_,r,hr,c2,c3⟩|⟨j,c,c1,c2,c3,_⟩
  ·have D:b.2.2.1 = -1:=by rw[←R,c1]
   have z:Wt H t (.find x)=({{H with live:=mdel H.live x}with ths:=H.ths.set t g},some (.give (x/256) b.2.2.2),0,0):=by
    have:H.ths.set t g=H.ths:=Qj hg;rw[this];simp only[Wt,U8,hm];rw[zB O]
   have e:=Z3 (H1:={H with live:=mdel H.live x}) K z;have u:x/256*256=x:=by omega
   have F:=h.updT hg (g':={g with ph:=some (.give (x/256) b.2.2.2)}) (live':=mdel H.live x) (λL y=>by
    have w:=Wcr h.lk hm L y;rw[D]at w;unfold cnT;rw[hph];simp only[cnP,u];by_cases m:x=y
    ·subst m;rw[zGZ]at w;by_cases hk : -1=L
     ·rw[zB hk]at w;rw[zB ⟨hk.symm,rfl⟩];omega
     ·rw[zA hk]at w;rw[zA (λC=>hk C.1.symm)];omega
    ·have:[x].count y=0:=zEY.2 aE;rw[this]at w;rw[zA (λC=>m C.2.symm)];split at w<;>omega)
    (Go.Vc.mdel_keys h.lk) (λX J=>.inl (Wcm.1 J).1) (λs a B=>by
     cases B;exact⟨p,N,h1,c1,by rw[u];exact W,Z⟩) ⟨d.ll,d.lo,d.hb,d.hl,by
      unfold PhI;exact P⟩
   refine⟨StI.mk' hg d.hl Y e F (KS.refl _),?_⟩;unfold EfF;rw[e,z];refine⟨rfl,.inl ⟨_,_,rfl,trivial,(λy m=>by cases m),zL K,by simp[Wbi]⟩,λi=>(i x rfl).elim,λy m=>?_⟩;cases m;exact⟨(λi=>by rw[hm]at i;cases i),λ_ _=>⟨rfl,rfl⟩⟩
  ·have G:b.2.2.1=(j:Int):=by rw[←R,c1]
   have M:j<H.tb.length:=by
    rw[h.wi.tb _ _ V]at c2;exact(gSi.1 c2).1
   have z:Wt H t (.find x)=({{H with live:=mdel H.live x}with ths:=H.ths.set t {g with hands:=[(j,[x])]}},some (.put j x),0,0):=by
    simp only[Wt,U8,hm];rw[zA O,G,iTn];unfold QV;rw[ZL (g:=g) (by exact hg),P];rfl
   have e:=Z3 (H1:={H with live:=mdel H.live x}) K z;have F:=h.updT hg (g':={g with hands:=[(j,[x])],ph:=some (.put j x)}) (live':=mdel H.live x) (λL y=>by
    have w:=Wcr h.lk hm L y;rw[G]at w;unfold cnT;rw[hph,P];simp only[cnP,Kx,VG];omega)
    (Go.Vc.mdel_keys h.lk) (λX J=>.inl (Wcm.1 J).1) (λs a B=>by cases B) ⟨d.ll,d.lo,λb' E=>by
     simp only[zV]at E;subst E;exact⟨M,by simp,by simp⟩,by simp,by
     unfold PhI;exact⟨rfl,M⟩⟩
   refine⟨StI.mk' hg d.hl Y e F (KS.refl _),?_⟩;unfold EfF;rw[e,z];refine⟨rfl,.inl ⟨_,_,rfl,trivial,(λy m=>by cases m),zL K,by simp[Wbi]⟩,λi=>(i x rfl).elim,λy m=>?_⟩;cases m;exact⟨(λi=>by rw[hm]at i;cases i),λ_ _=>⟨rfl,rfl⟩⟩
theorem WfW {f:Cls->Li->List Int×Li}{tb:List Cls}{ls:List Li}{b:Bt}(h:b∈Kb f tb ls):b.1<tb.length/\b.2≠[]/\∃c∈tb,∃l∈ls,b.2=(f c l).1:=by
 unfold Kb at h;obtain⟨k,d,a⟩:=zEO.1 h;split at a
 ·rename_i c l hc hl;split at a
  ·cases a
  ·cases a;exact⟨zU.1 d,by assumption,c,zE hc,l,zE hl,rfl⟩
 ·cases a
theorem Wf1 {f:Cls->Li->List Int×Li}{tb:List Cls}{ls:List Li}{l':Li}(h:l'∈Q8 f tb ls):∃c∈tb,∃l∈ls,l'=(f c l).2:=by
 unfold Q8 at h;obtain⟨i,a⟩:=zN h;rw[zGW]at a;split at a
 ·rename_i c l hc hl;cases a;exact⟨c,zE hc,l,zE hl,rfl⟩
 ·cases a
theorem Wfz {f:Cls->Li->List Int×Li}{tb:List Cls}{ls:List Li}(h:ls.length=tb.length):(Q8 f tb ls).length=tb.length:=by
 unfold Q8;rw[List.length_zipWith];omega
theorem Wf6 (c:Cls)(l:Li):(KJ c l).2.os.length<=l.os.length/\(KJ c l).1.length<=l.os.length:=by
 simp only[KJ,oldL,zq,zO];omega
theorem WdY (c:Cls)(l:Li):(ZX c l).2.os.length<=l.os.length/\(ZX c l).1.length<=l.os.length:=by
 simp only[ZX,oldL,zq,zO];omega
theorem Wko (h:HI H held s0)(hg:H.ths[t]?=some g)(hph:g.ph=some .drain):StI H t .drain/\EfF H t g .drain:=by
 have p:=(gSi.1 hg).1;have d:=h.th g (h.mem hg);have B:g.hands=[]:=by have:=d.ph;unfold PhI at this;rw[hph]at this;exact this
 have A:=h.tb40;have J:=Wax ZX H.tb g.ls;have r:Wt H t .drain=({H with ths:=H.ths.set t {g with ls:=Q8 ZX H.tb g.ls,hands:=Kb ZX H.tb g.ls}},(if Kb ZX H.tb g.ls=[]then none else some .back),0,0):=by
  simp only[Wt,ZL hg];rw[WeJ (g:={g with ls:=Q8 ZX H.tb g.ls,hands:=Kb ZX H.tb g.ls}) (by simp[p])]
 have e:=Z3 p r;have E:=h.updT hg (g':={ls:=Q8 ZX H.tb g.ls,hands:=Kb ZX H.tb g.ls,ph:=if Kb ZX H.tb g.ls=[]then none else some .back}) (live':=H.live) (λu x=>by
  have M:=cnF (f:=ZX) WiB d.ll u x;unfold cnT;rw[hph,B];have:cnP (if Kb ZX H.tb g.ls=[]then none else some Ph.back) u x=0:=by split<;>rfl
  simp only[this,VG];simp only[cnP];omega) h.lk (λL F=>.inl F) (λs a m=>by
   simp only at m;split at m<;>cases m) ⟨Wfz d.ll,λl hl=>by
   obtain⟨c,_,j,i,rfl⟩:=Wf1 hl;have:=d.lo j i;have:=WdY c j;exact⟨Wjf (d.lo j i).1,O⟩,λb K=>by
   obtain⟨D,w,c,_,j,i,C⟩:=WfW K;have:=d.lo j i;have:=WdY c j;exact⟨D,w,by rw[C];omega⟩,by simp only;omega,by
   unfold PhI;by_cases ho:Kb ZX H.tb g.ls=[]
   ·rw[zB ho];exact ho
   ·rw[zA ho];exact ho⟩
 refine⟨StI.mk' hg d.hl trivial e E (KS.refl _),?_⟩;unfold EfF;rw[e,r];refine⟨rfl,?_,λ_=>⟨rfl,rfl⟩,λx G=>by cases G⟩;by_cases ho:Kb ZX H.tb g.ls=[]
 ·exact .inr (by simp only;rw[zB ho])
 ·exact .inl ⟨.back,_,by simp only;rw[zA ho],trivial,(λy z=>by cases z),zL p,by simp only[Wbi];omega⟩
theorem Wni (h:HI H held s0)(hg:H.ths[t]?=some g){s a:Int}(hph:g.ph=some (.give s a)):StI H t (.give s a)/\EfF H t g (.give s a):=by
 have S:=(gSi.1 hg).1;have b:=h.th g (h.mem hg);have M:g.hands=[]:=by have:=b.ph;unfold PhI at this;rw[hph]at this;exact this
 obtain⟨p,C,h1,L,Y,W⟩:=h.gv g (h.mem hg) s a hph;obtain⟨A,z,_⟩:=h.wi.hf p C;have m:H.ars[p.k]?=some A:=z;have U:=(gSi.1 m).1;obtain⟨_,r,G,X,c3⟩:=h.wi.run C L z;have ga:=h.wi.ga _ _ z;have d:s=(r.1:Int):=by omega
 have P:KQ A s=0:=by
  unfold KQ;rw[zB];unfold Wbl;rw[zGP];exact⟨r,G,by simp[d]⟩
 have F:ownW held p.k (-1) [s*256]=true:=by rw[d];exact h.wi.giveOwn z G
 have wi:=h.wi.giveP z s;rw[zB P,h.wi.drp F]at wi;have u:a.toNat=p.k:=by omega
 have K:Wt H t (.give s a)=({H.setA p.k (QH A s)with ths:=H.ths.set t g},none,0,0):=by
  have:H.ths.set t g=H.ths:=Qj hg;rw[this];simp only[Wt,u,m,Hw.setA]
 have e:=Z3 (H1:=H.setA p.k (QH A s)) S K;have N:=h.upd hg (g':={g with ph:=none}) (live':=H.live) wi h.sim rfl (by simp[Wd.put]) (λq E _=>.inl (zH.1 E).1) (λw x=>by
  have i:=WhB (held':=held.filter λD=>!isOf p.k (-1) [s*256] D) (l:=[s*256]) (cl:=-1) aA (Wod F) (Wmf h.wi F) w x;have i:cnW held w x=cnW (held.filter λD=>!isOf p.k (-1) [s*256] D) w x+(if -1=w then[s*256].count x else 0):=i
  unfold cnT;rw[hph];simp only[cnP];by_cases hy:s*256=x
  ·subst hy;rw[zGZ]at i;by_cases hk : -1=w
   ·rw[zB hk]at i;rw[zB ⟨hk.symm,rfl⟩];omega
   ·rw[zA hk]at i;rw[zA (λy=>hk y.1.symm)];omega
  ·have:[s*256].count x=0:=zEY.2 aE;rw[this]at i;rw[zA (λy=>hy y.2.symm)];split at i<;>omega) h.lk (λZ R=>.inl R) (λs a C=>by cases C) ⟨b.ll,b.lo,b.hb,b.hl,by
   unfold PhI;exact M⟩
 refine⟨StI.mk' hg b.hl ⟨O,O,λB Q q E=>?_⟩ e N (KS.refl _),?_⟩
 ·obtain⟨j,V⟩:=zN Q;have J:=h.wi.ga j B V;have:=J.fit E;have:=J.pg.n2;omega
 ·unfold EfF;rw[e,K];exact⟨rfl,.inr rfl,λ_=>⟨rfl,rfl⟩,λx y=>by cases y⟩
theorem WnC (h:HI H held s0)(hg:H.ths[t]?=some g)(hph:g.ph=some .back):StI H t .back/\EfF H t g .back:=by
 have E:=(gSi.1 hg).1;have d:=h.th g (h.mem hg);have P:g.hands≠[]:=by have:=d.ph;unfold PhI at this;rw[hph]at this;exact this
 have w:=GE hg;cases hhd:g.hands with
 | nil=>exact(P hhd).elim
 | cons b r=>
  obtain⟨k,C⟩:=b;obtain⟨K,B,F⟩:=d.hb (k,C) (by rw[hhd];simp);simp only at K B F;have m:∀x,C.count x<=cnT g (k:Int) x:=λx=>by
   unfold cnT;rw[hhd,Kx,zB rfl];simp only;omega
  have i:∀x∈C,Um held (k:Int) x:=λx u=>h.um_t (h.mem hg) (zI (zGY.2 u) (m x));have A:C.Nodup:=zGX.2 λx=>by
   have S:=m x;have V:=h.cnT_le (h.mem hg) (k:Int) x;have W:=WlR held (k:Int) x;omega
  obtain⟨j,D,M,G,wi,um,sub⟩:=Wlx (H:={H with ths:=H.ths.set t {g with hands:=r}}) (tb:=H.tb) rfl h.wi (h.own_lt t) K i A;have J:Wt H t .back=({{H with ars:=j}with ths:=H.ths.set t {g with hands:=r}},(if r=[]then none else some .back),0,0):=by
   simp only[Wt,w,hhd,ZL hg,M];rw[WeJ (g:={g with hands:=r}) (by simp[E])]
  have e:=Z3 (H1:={H with ars:=j}) E J;have R:=h.upd hg (g':={g with hands:=r,ph:=if r=[]then none else some .back}) (live':=H.live) wi h.sim rfl G (λp z Q=>.inl (sub p z Q)) (λL x=>by
   have S:=WhB A i um L x;unfold cnT;rw[hph,hhd,Kx];have:cnP (if r=[]then none else some Ph.back) L x=0:=by split<;>rfl
   simp only[this];simp only[cnP];omega) h.lk (λX U=>.inl U) (λs a z=>by
    simp only at z;split at z<;>cases z) ⟨d.ll,d.lo,λb hb=>d.hb b (by rw[hhd];exact zAM _ hb),by have:=d.hl;rw[hhd]at this;simp at this ⊢;omega,by
    unfold PhI;by_cases ho:r=[]
    ·rw[zB ho];exact ho
    ·rw[zA ho];exact ho⟩
  refine⟨StI.mk' hg d.hl ⟨k,C,r,by rw[w];exact hhd,λx u=>⟨(h.i63 (i x u)).1,(h.i63 (i x u)).2.2⟩,O⟩ e R (KS.refl _),?_⟩;unfold EfF;rw[e,J];refine⟨rfl,?_,λ_=>⟨rfl,rfl⟩,λx u=>by cases u⟩;by_cases ho:r=[]
  ·exact .inr (by simp only;rw[zB ho])
  ·exact .inl ⟨.back,_,by simp only;rw[zA ho],trivial,(λy N=>by cases N),zL E,by simp only[Wbi];rw[hhd];simp⟩
theorem Wou (h:HI H held s0)(hg:H.ths[t]?=some g){x:Int}(hph:g.ph=some (.put k x)):StI H t (.put k x)/\EfF H t g (.put k x):=by
 have B:=(gSi.1 hg).1;have r:=h.th g (h.mem hg);obtain⟨J,L⟩:g.hands=[(k,[x])]/\k<H.tb.length:=by have:=r.ph;unfold PhI at this;rw[hph]at this;exact this
 obtain⟨c,hc,E⟩:=h.cls L;obtain⟨l,hl,M,D,hlm⟩:=r.li L;have C:=GE hg;have h40:=h.tb40;have W:=Wns (x:=x) E D;have N:=Wmh c x l O;have X:(putL c x l).1.length<=129/\(putL c x l).2.os.length<=128:=by
  have ac:=D.lim;have u:(addL [x] l).os=l.os++[x]:=by unfold addL;rw[zA aE]
  have R:(upL c (addL [x] l)).os=l.os++[x]:=by rw[←u];unfold upL;split<;>rfl
  unfold Cls.ok at E;unfold putL;rw[zA O];split
  ·rw[u];simp;omega
  ·simp only[oldL,R,zO,zq,zK,zDN];omega
 obtain⟨Y,Q⟩:=r.setL (k:=k) W X.2;have aa:∃hs:List Bt,(if(putL c x l).1=[]then[]else[(k,(putL c x l).1)])=hs:=⟨_,rfl⟩
 obtain⟨i,j⟩:=aa;have ab:i.length<=1:=by rw[←j];split<;>simp
 have w:∀b∈i,b.1<H.tb.length/\b.2≠[]/\b.2.length<=256:=λb p=>by
  rw[←j]at p;split at p
  ·simp at p
  ·simp only[zV]at p;subst p;exact⟨L,by assumption,by simp only;omega⟩
 have G:∀d y,cnB i d y=if(k:Int)=d then(putL c x l).1.count y else 0:=λd y=>by
  rw[←j];split
  ·rename_i hn;rw[hn,VG];simp
  ·simp only[Kx,VG,zp]
 let g3:Th:={g with ls:=g.ls.set k (putL c x l).2,hands:=i}
 let g4:Th:=if H.cf.budget<Qt H.tb g3.ls then{g3 with ls:=Q8 KJ H.tb g3.ls,hands:=g3.hands++Kb KJ H.tb g3.ls}else g3
 have U:putH H t k x = {H with ths:=H.ths.set t g4}:=by
  have e2:(if(putL c x l).1=[]then H.setT t λh=>h.setL k (putL c x l).2 else QV (H.setT t λh=>h.setL k (putL c x l).2) t k (putL c x l).1) = {H with ths:=H.ths.set t {g with ls:=g.ls.set k (putL c x l).2,hands:=(k,[x])::i}}:=by
   rw[←j];split
   ·rw[ZL hg,←J];rfl
   ·rw[ZL hg];unfold QV;rw[ZL (g:=g.setL k (putL c x l).2) (by simp[B])];simp only[zBO,Th.setL,J];rfl
  have e3:({H with ths:=H.ths.set t {g with ls:=g.ls.set k (putL c x l).2,hands:=(k,[x])::i}}:Hw).setT t (λh=>{h with hands:=h.hands.drop 1}) = {H with ths:=H.ths.set t g3}:=by
   rw[ZL (g:={g with ls:=g.ls.set k (putL c x l).2,hands:=(k,[x])::i}) (by simp[B])];simp only[zBO,zFP,List.drop_zero];rfl
  have z:({H with ths:=H.ths.set t g3}:Hw).ths[t]?=some g3:=by simp[B]
  unfold putH;simp only[V9 hc,C,M,e2,e3,GE z,ZL z,zBO];show(if H.cf.budget<Qt H.tb g3.ls then _ else _)=_
  simp only[g4];split<;>rfl
 have hg4:g4.ph=g.ph:=by simp only[g4];split<;>rfl
 have S:∀d y,cnL g4.ls d y+cnB g4.hands d y=cnL g.ls d y+cnB g.hands d y:=λd y=>by
  have V:=Wab hl (putL c x l).2 d y;have h2:=N y;have h3:cnL g3.ls d y+cnB g3.hands d y=cnL g.ls d y+cnB g.hands d y:=by
   simp only[g3];rw[G,J,Kx,VG];by_cases hkk:(k:Int)=d
   ·simp only[hkk,zS]at V ⊢;omega
   ·simp only[hkk,zt]at V ⊢;omega
  simp only[g4];split
  ·have h4:=cnF (f:=KJ) Wk3 (tb:=H.tb) (ls:=g3.ls) Y d y;simp only[WbF];omega
  ·exact h3
 have m:g4.ls.length=H.tb.length/\(∀l∈g4.ls,LiOk l/\l.os.length<=128)/\(∀b∈g4.hands,b.1<H.tb.length/\b.2≠[]/\b.2.length<=256)/\g4.hands.length<=41:=by
  have hsl:=Wax KJ H.tb g3.ls;simp only[g4];split
  ·refine⟨Wfz Y,λl hl=>?_,λb p=>?_,by simp only[zK,g3]at *;omega⟩
   ·obtain⟨K,Z,F,A,rfl⟩:=Wf1 hl;have h5:=Q F A;have:=Wf6 K F;exact⟨Wfb (h.ok K Z) h5.1,O⟩
   ·rcases zR.1 p with p|p
    ·exact w b p
    ·obtain⟨b1,b2,K,_,F,A,b3⟩:=WfW p;have h5:=Q F A;have:=Wf6 K F;exact⟨b1,b2,by rw[b3];omega⟩
  ·exact⟨Y,Q,w,by simp only[g3];omega⟩
 have hs:Wt H t (.put k x)=({H with ths:=H.ths.set t g4},(if g4.hands=[]then none else some .back),0,0):=by
  show(putH H t k x,retH (putH H t k x) t,0,0)=_;rw[U,WeJ (g:=g4) (by simp[B])]
 have e:=Z3 B hs;have hi:=h.updT hg (g':={g4 with ph:=if g4.hands=[]then none else some .back}) (live':=H.live) (λd y=>by
  have V:=S d y;unfold cnT;rw[hph];have:cnP (if g4.hands=[]then none else some Ph.back) d y=0:=by split<;>rfl
  simp only[this];simp only[cnP];omega) h.lk (λe' he=>.inl he) (λs a P=>by
   simp only at P;split at P<;>cases P) ⟨m.1,m.2.1,m.2.2.1,m.2.2.2,by
   unfold PhI;by_cases ho:g4.hands=[]
   ·simp only[ho,zS]
   ·simp only[ho,zt];exact ho⟩
 refine⟨StI.mk' hg r.hl ⟨L,by rw[C,J];simp⟩ e hi (KS.refl _),?_⟩;unfold EfF;rw[e,hs];refine⟨rfl,?_,λ_=>⟨rfl,rfl⟩,λx hx=>by cases hx⟩;by_cases ho:g4.hands=[]
 ·exact .inr (by simp only;rw[zB ho])
 ·exact .inl ⟨.back,_,by simp only;rw[zA ho],trivial,(λy hy=>by cases hy),zL B,by simp only[Wbi];have:=m.2.2.2;omega⟩
end Go.Ar
namespace Go.Ar
open Go Go.Vc Go.Proofs
open Go.Bu (isPow WaX Web)
variable {σ u w w':Hp}{F B P Q:Rg}{L:LayH}{H H':Hw}{t n:Nat}{g:Th}
def Wdg (size:Int):Int:=(size+255)/256*256
def Wee (tb:List Cls)(size align:Int):Int×Int:=
 if size<=16384/\KO size align=true then(match clsV tb size align with
  | some k=>((tb.getD k ⟨8,1,1⟩).size:Int)
  | none=>Wdg size,0)else(0,1)
theorem WkR {a:Int}(h1:1<=a)(h2:a<=256):(bits .and .i64 a (a-1) != 0) = !isPow a:=by
 obtain⟨a,rfl⟩:=zk (show 0<=a by omega);rw[show(a:Int)-1=((a-1:Nat):Int) by omega,Go.Bu.bits_and_i64 O O,WaX,←Web O O];simp only[bne,Bool.not_inj_iff];rw[zBD];simp only[zZ];omega
end Go.Ar
namespace Go.Ar
open Go Go.Vc Go.Proofs
variable {σ u w w':Hp}{F B P Q:Rg}{L:LayH}{H H':Hw}{t n:Nat}{g:Th}
theorem WfZ {tb:List Cls}{size align:Int}{k:Nat}(h:clsV tb size align=some k):k<tb.length:=(zFU.1 h).1
end Go.Ar
namespace Go.Ar
open Go.Vc (mget mset mdel)
variable {H H':Hw}{held:List Pc}{s0:Sp}{t k j:Nat}{g:Th}{A:AR}{c:Cls}
theorem KE (f:Th->Th)(hj:j≠t):(H.setT t f).ths[j]?=H.ths[j]? := by
 simp[Hw.setT,zDB,Ne.symm hj]
theorem Wk5 (x:Int)(hj:j≠t):(putH H t k x).ths[j]?=H.ths[j]? := by
 unfold putH QV;simp only;split<;>split<;>simp only[KE _ hj]
theorem WiL (p:Ph)(hj:j≠t):(Wt H t p).1.ths[j]?=H.ths[j]? := by
 cases p with
 | take k=>simp only[Wt];split<;>simp only[VF,KE _ hj]
 | transfer k w=>
  simp only[Wt];split
  ·split
   ·unfold QV;rw[KE _ hj];rfl
   ·rfl
  ·rfl
 | central k w=>
  simp only[Wt];split
  ·rfl
  ·unfold QV;rw[KE _ hj];rfl
 | grow k w=>simp only[Wt];split<;>rfl
 | fill=>simp only[Wt];split<;>simp only[VF,KE _ hj]
 | large m=>simp only[Wt];split<;>rfl
 | find x=>
  simp only[Wt,U8];split
  ·rfl
  ·split
   ·rfl
   ·unfold QV;rw[KE _ hj]
 | put k x=>exact Wk5 x hj
 | back=>
  simp only[Wt];split
  ·rw[WaL,KE _ hj]
  ·rfl
 | give s a=>simp only[Wt];split<;>rfl
 | drain=>simp only[Wt,KE _ hj]
theorem Hl (p:Ph)(hj:j≠t):(QU H t p).ths[j]?=H.ths[j]? := by
 unfold QU setPh;rw[KE _ hj,WiL p hj]
def phAt (H:Hw)(j:Nat):Option Ph:=(H.ths[j]?).bind (·.ph)
def Wd2 (H H':Hw)(t:Nat):Prop:=phAt H' t=none/\∀j,j≠t->phAt H' j=phAt H j
theorem st_M (h:HI H held s0)(hg:H.ths[t]?=some g){p:Ph}(hp:g.ph=some p){cl sz:Int}(hr:Rq H.tb g p cl sz):StI H t p/\EfM H t p cl sz:=by
 cases p with
 | take k=>exact Wl9 h hg hp hr
 | transfer k w=>exact Wej h hg hp hr
 | central k w=>exact Wgj h hg hp hr
 | grow k w=>exact Wny h hg hp hr
 | fill=>exact Wnq h hg hp hr
 | large m=>exact WkP h hg hp hr
 | find x=>exact hr.elim
 | put k x=>exact hr.elim
 | back=>exact hr.elim
 | give s a=>exact hr.elim
 | drain=>exact hr.elim
theorem st_F (h:HI H held s0)(hg:H.ths[t]?=some g){p:Ph}(hp:g.ph=some p)(hf:isF p):StI H t p/\EfF H t g p:=by
 cases p with
 | take k=>exact hf.elim
 | transfer k w=>exact hf.elim
 | central k w=>exact hf.elim
 | grow k w=>exact hf.elim
 | fill=>exact hf.elim
 | large m=>exact hf.elim
 | find x=>exact WnO h hg hp
 | put k x=>exact Wou h hg hp
 | back=>exact WnC h hg hp
 | give s a=>exact Wni h hg hp
 | drain=>exact Wko h hg hp
theorem GW {p:Ph}(ht:t<H.ths.length):∃g',(QU H t p).ths[t]?=some g'/\g'.ph=(Wt H t p).2.1:=Wf3 ht
theorem Wof {cl sz:Int}:∀(n:Nat) {H:Hw} {held:List Pc} {s0:Sp} {g:Th} {p:Ph},HI H held s0->H.ths[t]?=some g->g.ph=some p->Rq H.tb g p cl sz->Wam H t p<=n →
 ∃m H' a e,RunN m H t p H' a e/\(∃held s0,HI H' held s0)/\KS H.sp H'.sp/\Wd2 H H' t/\((e≠0/\a=0/\H'.live=H.live)\/(e=0/\mget H.live a=none/\H'.live=mset H.live a (a,sz,cl,YJ H'.ars a)))
 | n,H,held,s0,g,p,h,hg,hp,hr,hn=>by
  have ht:=(gSi.1 hg).1;obtain⟨s,E⟩:=st_M h hg hp hr;have i:(Wt H t p).2.1=none->Wd2 H (QU H t p) t:=λC=>by
   obtain⟨G,w,x⟩:=GW (p:=p) ht;exact⟨by unfold phAt;rw[w];exact x.trans C,λj u=>by unfold phAt;rw[Hl p u]⟩
  rcases E with⟨p',G,e1,e2,e3,e4,e5⟩|⟨e1,e2,e3,e4⟩|⟨e1,e2,e3,e4⟩
  ·obtain⟨z,B,D⟩:=s.hi;obtain⟨J,b,hp2⟩:=GW (p:=p) ht;rw[e3]at b;cases b;have y:(QU H t p).tb=H.tb:=(Gj H t p).1;have F:Wam (QU H t p) t p'<n:=by omega
   obtain⟨m,H',a,e,r,hi,ks,A,d⟩:=Wof (Wam (QU H t p) t p') D e3 (hp2.trans e1) (by rw[y];exact e4) (zD _);refine⟨m+1,H',a,e,.next s.ok e1 r,hi,s.ks.trans ks,⟨A.1,λj u=>(A.2 j u).trans (by unfold phAt;rw[Hl p u])⟩,?_⟩;rw[e2]at d;exact d
  ·exact⟨1,_,_,_,.done s.ok e1,s.hi,s.ks,i e1,.inl ⟨e2,e3,e4⟩⟩
  ·exact⟨1,_,_,_,.done s.ok e1,s.hi,s.ks,i e1,.inr ⟨e2,e3,e4⟩⟩
termination_by n=>n
theorem Wop:∀(n:Nat) {H:Hw} {held:List Pc} {s0:Sp} {g:Th} {p:Ph},HI H held s0->H.ths[t]?=some g->g.ph=some p->isF p->Wbi g p<=n →
 ∃m H' e,RunN m H t p H' 0 e/\(∃held s0,HI H' held s0)/\KS H.sp H'.sp/\Wd2 H H' t/\((∀x,p≠.find x)->e=0/\H'.live=H.live) ∧
  (∀x,p=.find x->(mget H.live x=none->e≠0/\H'.live=H.live)/\(∀b,mget H.live x=some b->e=0/\H'.live=mdel H.live x))
 | n,H,held,s0,g,p,h,hg,hp,hf,hn=>by
  have ht:=(gSi.1 hg).1;obtain⟨s,L,P,J,a⟩:=st_F h hg hp hf;rcases P with⟨p',D,e1,e2,e3,e4,e5⟩|e1
  ·obtain⟨C,K,M⟩:=s.hi;obtain⟨R,i,hp2⟩:=GW (p:=p) ht;rw[e4]at i;cases i;have Q:Wbi D p'<n:=by omega
   obtain⟨m,H',e,r,hi,ks,E,w,_⟩:=Wop (Wbi D p') M e4 (hp2.trans e1) e2 (zD _);obtain⟨G,F⟩:=w e3;refine⟨m+1,H',e,.next s.ok e1 r,hi,s.ks.trans ks,⟨E.1,λj u=>(E.2 j u).trans (by unfold phAt;rw[Hl p u])⟩,λd=>⟨G,F.trans (J d).2⟩,λx d=>⟨λy=>?_,λb N=>⟨G,F.trans ((a x d).2 b N).2⟩⟩⟩;have:=((a x d).1 y).1;rw[e1]at this;cases this
  ·have A:Wd2 H (QU H t p) t:=by
    obtain⟨D,z,B⟩:=GW (p:=p) ht;exact⟨by unfold phAt;rw[z];exact B.trans e1,λj u=>by unfold phAt;rw[Hl p u]⟩
   have r:=RunN.done (H:=H) (t:=t) s.ok e1;rw[L]at r;exact⟨1,_,_,r,s.hi,s.ks,A,J,λx d=>⟨λy=>((a x d).1 y).2,(a x d).2⟩⟩
termination_by n=>n
structure OpOk (H H':Hw):Prop where
 hi:∃held s0,HI H' held s0
 ks:KS H.sp H'.sp
 kp:Z9 H' H
 ph:∀j,phAt H' j=phAt H j
theorem OpOk.refl (h:HI H held s0):OpOk H H:=⟨⟨held,s0,h⟩,KS.refl _,Z9.refl _,λ_=>rfl⟩
theorem OpOk.trans {H1 H2 H3:Hw}(a:OpOk H1 H2)(b:OpOk H2 H3):OpOk H1 H3:=⟨b.hi,a.ks.trans b.ks,a.kp.trans b.kp,λj=>(b.ph j).trans (a.ph j)⟩
theorem Wb7 {tb:List Cls}{kind size align addr:Int}{p:Ph}(h:reqH tb kind size align addr=some p)(hx:I63 addr)(hh:g.hands=[]):PhI tb.length {g with ph:=some p}:=by
 unfold reqH at h;split at h
 ·split at h
  ·split at h
   ·split at h
    ·rename_i k hk;cases h;exact⟨hh,WfZ hk⟩
    ·cases h;exact⟨hh,O,O⟩
   ·cases h
  ·cases h
 ·split at h
  ·cases h;exact⟨hh,hx⟩
  ·split at h
   ·cases h;exact hh
   ·cases h
theorem HI.setPh (h:HI H held s0)(hg:H.ths[t]?=some g)(hn:g.ph=none){p:Ph}(hp:PhI H.tb.length {g with ph:=some p})(hq:∀s a,p≠.give s a):HI (setPh H t (some p)) held s0:=by
 have b:=h.th g (h.mem hg);have e:Go.Ar.setPh H t (some p) = {H with ths:=H.ths.set t {g with ph:=some p}}:=ZL hg _;rw[e];refine h.updT hg (live':=H.live) (λi x=>?_) h.lk (λj d=>.inl d) (λs a hp=>by cases hp;exact(hq s a rfl).elim) ⟨b.ll,b.lo,b.hb,b.hl,hp⟩;unfold cnT;rw[hn];have:cnP (some p) i x=0:=by
  cases p<;>first|rfl|exact(hq _ _ rfl).elim
 simp only[this];simp only[cnP]
theorem Gg (h:HI H held s0)(hg:H.ths[t]?=some g)(hn:g.ph=none):g.hands=[]:=by
 have:=(h.th g (h.mem hg)).ph;unfold PhI at this;rw[hn]at this;exact this
theorem Ui (H:Hw)(thread kind size align addr:Int):(∃e,KH H thread kind size align addr=.inl e/\e≠0)\/∃(t:Nat) (p:Ph) (g:Th),thread=(t:Int)/\H.ths[t]?=some g/\g.ph=none/\reqH H.tb kind size align addr=some p/\KH H thread kind size align addr=.inr (t,p):=by
 unfold KH;split
 ·split
  ·split
   ·split
    ·rename_i hth _ g hg hn _ p hp;exact .inr ⟨thread.toNat,p,g,O,hg,hn,hp,rfl⟩
    ·exact .inl ⟨1,rfl,by decide⟩
   ·exact .inl ⟨5,rfl,by decide⟩
  ·exact .inl ⟨1,rfl,by decide⟩
 ·exact .inl ⟨1,rfl,by decide⟩
theorem Wgd (hg:H.ths[t]?=some g)(p:Option Ph)(hj:j≠t):phAt (setPh H t p) j=phAt H j:=by
 unfold phAt setPh;rw[KE _ hj]
theorem Wn3 (hg:H.ths[t]?=some g)(hn:g.ph=none){p:Ph}(ps:Wd2 (setPh H t (some p)) H' t):∀j,phAt H' j=phAt H j:=λj=>by
 by_cases hj:j=t
 ·subst hj;rw[ps.1];unfold phAt;rw[hg];exact hn.symm
 ·rw[ps.2 j hj,Wgd hg _ hj]
def MalE (H:Hw)(size align:Int)(H':Hw)(a e:Int):Prop:=(e≠0/\a=0/\H'.live=H.live) ∨
 (e=0/\mget H.live a=none/\(1<=size/\size<=16384/\KO size align=true)/\∃cl,H'.live=mset H.live a (a,(Wee H.tb size align).1,cl,YJ H'.ars a)/\((∃k:Nat,cl=k/\clsV H.tb size align=some k)\/cl = -1/\clsV H.tb size align=none))
theorem Wjz (h:HI H held s0)(thread size align:Int):∃H' a e,Hb H thread 0 size align 0 H' a e/\OpOk H H'/\MalE H size align H' a e:=by
 rcases Ui H thread 0 size align 0 with⟨e,hs,hne⟩|⟨t,p,g,rfl,hg,hn,hq,hs⟩
 ·exact⟨H,0,e,.inl ⟨hs,hne,rfl,rfl⟩,OpOk.refl h,.inl ⟨hne,rfl,rfl⟩⟩
 ·have C:=Gg h hg hn;have y:=Wb7 (g:=g) hq (by unfold I63;decide) C;unfold reqH at hq;rw[zB rfl]at hq;split at hq
  ·rename_i hsz;split at hq
   ·rename_i hok;have b:Wee H.tb size align=(match clsV H.tb size align with
     | some k=>((H.tb.getD k ⟨8,1,1⟩).size:Int)
     | none=>Wdg size,0):=by
     unfold Wee;rw[zB ⟨hsz.2,hok⟩]
     first|done | (cases clsV H.tb size align<;>rfl)
    obtain⟨cl,d,x⟩:∃cl,Rq H.tb {g with ph:=some p} p cl (Wee H.tb size align).1/\((∃k:Nat,cl=k/\clsV H.tb size align=some k)\/cl = -1/\clsV H.tb size align=none):=by
     cases hcv:clsV H.tb size align with
     | some k=>
      rw[hcv]at hq b;cases hq;have u:=WfZ hcv;have z:H.tb[k]?=some H.tb[k]:=gGe u;refine⟨k,⟨rfl,H.tb[k],z,?_⟩,.inl ⟨k,rfl,rfl⟩⟩;rw[b];simp only;rw[zM,z];rfl
     | none=>
      rw[hcv]at hq b;cases hq;refine⟨-1,⟨rfl,?_⟩,.inr ⟨rfl,rfl⟩⟩;rw[b];simp only;unfold Wdg;omega
    have i:∀s a,p≠.give s a:=λs a e=>by subst e;exact d.elim
    have B:=h.setPh hg hn y i;have w:(Go.Ar.setPh H t (some p)).ths[t]?=some {g with ph:=some p}:=by
     have D:=(gSi.1 hg).1;have e:Go.Ar.setPh H t (some p) = {H with ths:=H.ths.set t {g with ph:=some p}}:=ZL hg _;rw[e];simp[D]
    obtain⟨m,H',a,e,r,E,ks,A,j⟩:=Wof _ B w rfl d (zD _);refine⟨H',a,e,.inr ⟨t,p,m,hs,r⟩,⟨E,ks,(KG _ _ _).trans (WfO r),Wn3 hg hn A⟩,?_⟩;rcases j with⟨r1,r2,r3⟩|⟨r1,r2,r3⟩
    ·exact .inl ⟨r1,r2,r3⟩
    ·exact .inr ⟨r1,r2,⟨hsz.1,hsz.2,hok⟩,cl,r3,x⟩
   ·cases hq
  ·cases hq
def FreE (H:Hw)(thread addr:Int)(H':Hw)(e:Int):Prop:=
 (e≠0/\H'=H/\KH H thread 1 0 0 addr=.inl e)\/((∃p,KH H thread 1 0 0 addr=.inr p)/\mget H.live addr=none/\e≠0/\H'.live=H.live)\/((∃p,KH H thread 1 0 0 addr=.inr p)/\∃b,mget H.live addr=some b/\e=0/\H'.live=mdel H.live addr)
theorem WlY (h:HI H held s0)(hg:H.ths[t]?=some g)(hn:g.ph=none){p:Ph}(hp:PhI H.tb.length {g with ph:=some p})(hf:isF p)(hq:∀s a,p≠.give s a):∃m H' e,RunN m (setPh H t (some p)) t p H' 0 e/\OpOk H H'/\((∀x,p≠.find x)->e=0/\H'.live=H.live) ∧
 (∀x,p=.find x->(mget H.live x=none->e≠0/\H'.live=H.live)/\(∀b,mget H.live x=some b->e=0/\H'.live=mdel H.live x)):=by
 have w:=h.setPh hg hn hp hq;have d:(Go.Ar.setPh H t (some p)).ths[t]?=some {g with ph:=some p}:=by
  have y:=(gSi.1 hg).1;have e:Go.Ar.setPh H t (some p) = {H with ths:=H.ths.set t {g with ph:=some p}}:=ZL hg _;rw[e];simp[y]
 obtain⟨m,H',e,r,i,ks,u,j,z⟩:=Wop _ w d rfl hf (zD _);exact⟨m,H',e,r,⟨i,ks,(KG _ _ _).trans (WfO r),Wn3 hg hn u⟩,j,z⟩
theorem Wgq (h:HI H held s0)(thread addr:Int)(hx:I63 addr):∃H' e,Hb H thread 1 0 0 addr H' 0 e/\OpOk H H'/\FreE H thread addr H' e:=by
 rcases Ui H thread 1 0 0 addr with⟨e,hs,hne⟩|⟨t,p,g,rfl,hg,hn,hq,hs⟩
 ·exact⟨H,e,.inl ⟨hs,hne,rfl,rfl⟩,OpOk.refl h,.inl ⟨hne,rfl,hs⟩⟩
 ·have d:=Wb7 (g:=g) hq hx (Gg h hg hn);have j:p=.find addr:=by unfold reqH at hq;simp at hq;exact hq.symm
  subst j;obtain⟨m,H',e,r,op,_,i⟩:=WlY h hg hn d trivial (λs a e=>by cases e);refine⟨H',e,.inr ⟨t,_,m,hs,r⟩,op,?_⟩;cases hm:mget H.live addr with
  | none=>exact .inr (.inl ⟨⟨_,hs⟩,hm,(i addr rfl).1 hm⟩)
  | some b=>exact .inr (.inr ⟨⟨_,hs⟩,b,hm,(i addr rfl).2 b hm⟩)
theorem Wev (h:HI H held s0)(thread:Int):∃H' e,Hb H thread 2 0 0 0 H' 0 e/\OpOk H H'/\H'.live=H.live:=by
 rcases Ui H thread 2 0 0 0 with⟨e,hs,hne⟩|⟨t,p,g,rfl,hg,hn,hq,hs⟩
 ·exact⟨H,e,.inl ⟨hs,hne,rfl,rfl⟩,OpOk.refl h,rfl⟩
 ·have b:=Wb7 (g:=g) hq (by unfold I63;decide) (Gg h hg hn);have i:p=.drain:=by unfold reqH at hq;simp at hq;exact hq.symm
  subst i;obtain⟨m,H',e,r,op,d,_⟩:=WlY h hg hn b trivial (λs a e=>by cases e);exact⟨H',e,.inr ⟨t,_,m,hs,r⟩,op,(d λx e=>by cases e).2⟩
end Go.Ar
namespace Go.Ar
open Go Go.Vc Go.Proofs
variable {σ u w w':Hp}{F B P Q:Rg}{L:LayH}{H H':Hw}{t n k:Nat}{A:AR}{Y:Lay}
theorem Fr.refl (A:AR):Fr A A:=⟨rfl,rfl,rfl⟩
theorem Fr.trans {A B C:AR}(h:Fr B A)(k:Fr C B):Fr C A:=⟨k.1.trans h.1,k.2.1.trans h.2.1,k.2.2.trans h.2.2⟩
theorem WeW {α:Type}(f:AR×Sp->α->AR×Sp)(hf:∀p x,Fr (f p x).1 p.1):∀(l:List α) (p:AR×Sp),Fr (l.foldl f p).1 p.1
 | [],p=>Fr.refl _
 | x::l,p=>(hf p x).trans (WeW f hf l (f p x))
theorem WiP (A:AR)(sp:Sp):Fr (trimS A sp).1 A:=WeW Ve (λp x=>⟨rfl,rfl,rfl⟩) _ _
theorem Wly (A:AR):Fr (YK A) A:=⟨(Vx _ A).1,(Vx _ A).2.1,(Vx _ A).2.2.1⟩
theorem WlL (A:AR)(sp:Sp)(want:Int):Fr (relS A sp want).1 A:=by
 unfold relS;split
 ·exact Fr.refl A
 ·exact(Wly A).trans (WeW rel1 (λp x=>⟨rfl,rfl,rfl⟩) _ _)
theorem WiW (h:HH σ F L H)(hk:H.ars[k]?=some A)(hy:L.ys[k]?=some Y){R:aN}
 (hR:∀σ',Ext F σ σ'->HH σ' (Grow F σ) L {H.setA k (trimS A H.sp).1 with sp:=(trimS A H.sp).2}->R ((WgZ A:Nat):Int) σ'):Yc.c (aW Y.p) σ R:=by
 obtain⟨Y',G,D,d,_,j,a⟩:=h.stepAS hk;rw[hy]at d;cases d;refine Wkz j λσ' e r=>?_;have i:traT (trimS A H.sp).1 Y=traT A Y:=(WiP A H.sp).traT Y;obtain⟨m,s⟩:=a σ' _ _ (Cut G σ) (Cut D σ) (WiP A H.sp).1 e ⟨λb g=>.inl g.1,λb g=>g.1⟩ (by rw[i];exact r);exact hR σ' m s
theorem Wc7 (h:HH σ F L H)(hk:H.ars[k]?=some A)(hy:L.ys[k]?=some Y)(want:Int)(h12:(Vv (YK A).st).length<=12){R:Int->Int->Hp->Prop}
 (hR:∀σ',Ext F σ σ'->HH σ' (Grow F σ) L {H.setA k (relS A H.sp want).1 with sp:=(relS A H.sp want).2}->R ((relV A want:Nat):Int) (relE want) σ'):Xj.c (aW Y.p) want σ R:=by
 obtain⟨Y',G,D,b,_,g,a⟩:=h.stepAS hk;rw[hy]at b;cases b;refine WeD g want h12 λσ' G' D' m e j=>?_;have d:traT (relS A H.sp want).1 Y=traT A Y:=(WlL A H.sp want).traT Y;obtain⟨i,r⟩:=a σ' _ _ G' D' (WlL A H.sp want).1 e m (by rw[d];exact j);exact hR σ' i r
def QG (H:Hw)(n:Nat):Hw×Nat:=(List.range n).foldl (λ(p:Hw×Nat) k=>match p.1.ars[k]? with
 | some A=>({p.1.setA k (trimS A p.1.sp).1 with sp:=(trimS A p.1.sp).2},p.2+WgZ A)
 | none=>p) (H,0)
theorem UZ (n:Nat):QG H (n+1)=(match (QG H n).1.ars[n]? with
 | some A=>({(QG H n).1.setA n (trimS A (QG H n).1.sp).1 with sp:=(trimS A (QG H n).1.sp).2},(QG H n).2+WgZ A)
 | none=>QG H n):=by
 unfold QG;rw[zAB,zAS];rfl
theorem Wei (H:Hw)(n:Nat):Z9 (QG H n).1 H:=by
 induction n with
 | zero=>exact Z9.refl H
 | succ n ih=>
  rw[UZ];split
  ·exact ih.trans (Z8 _ _ _ _)
  ·exact ih
theorem Wj0 (h:HH σ F L H)(hb:∀n,n<=H.ars.length->(QG H n).2<=1000000){R:aN}(hR:∀σ',Ext F σ σ'->HH σ' (Grow F σ) L (QG H H.ars.length).1->R (((QG H H.ars.length).2:Nat):Int) σ'):Zy.c (aW L.p) σ R:=by
 refine Zy.o ?_;unfold Zy.v;refine KB h (ifF rfl (nilP (h.hd.rS rfl ?_)));have Q:=h.arowL;have M:=h.s.a2;refine Ko (a:=bN) (bb:=bN) (λ(x z:Int) w=>∃(j:Nat) (B P:Rg),z=(j:Int)/\x=((QG H j).2:Int)/\j<=H.ars.length/\HK F σ B w P L (QG H j).1) (λ_ z _=>H.ars.length-z.toNat) ⟨0,_,_,rfl,rfl,O,HK.start h⟩ ?_;rintro(x:Int) (z:Int) w ⟨j,B,P,rfl,rfl,hj,K⟩;refine ifD (λy=>?_) λC=>?_
 ·simp only at y;have g:j<H.ars.length:=by omega
  obtain⟨A,u⟩:∃A,(QG H j).1.ars[j]?=some A:=⟨_,gGe (by rw[(Wei H j).2.2.2];exact g)⟩;obtain⟨Y,D,_,_⟩:=K.h.ar u;have d:=UZ (H:=H) j;rw[u]at d;simp only at d;have E:=hb (j+1) O;refine K.h.rA D (WiW K.h u D λU G N=>?_);have K1:=K.to G N λb _ hb=>hb;have S:(QG H (j+1)).2=(QG H j).2+WgZ A:=by rw[d]
  have J:(QG H (j+1)).1 = {(QG H j).1.setA j (trimS A (QG H j).1.sp).1 with sp:=(trimS A (QG H j).1.sp).2}:=by rw[d]
  rw[←J]at K1;exact arN (m:=(QG H (j+1)).2) O O (arN (m:=j+1) O O ⟨⟨j+1,_,_,rfl,rfl,O,K1⟩,O⟩)
 ·have r:j=H.ars.length:=by simp only at C;omega
  subst r;exact hR w K.e (K.fin h)
def Ut (H:Hw)(n:Nat):Hw:=(List.range n).foldl (λ(H:Hw) k=>match H.ars[k]? with
 | some A=>H.setA k (U4 A)
 | none=>H) H
theorem U0 (n:Nat):Ut H (n+1)=(match (Ut H n).ars[n]? with
 | some A=>(Ut H n).setA n (U4 A)
 | none=>Ut H n):=by
 unfold Ut;rw[zAB,zAS];rfl
theorem Wez (H:Hw)(n:Nat):Z9 (Ut H n) H:=by
 induction n with
 | zero=>exact Z9.refl H
 | succ n ih=>
  rw[U0];split
  ·exact ih.trans (Z8 _ _ _ _)
  ·exact ih
theorem WkD (h:HH σ F L H)(hI:∀n A,n<H.ars.length->(Ut H n).ars[n]?=some A->TraI A){R:aP}(hR:∀σ',Ext F σ σ'->HH σ' (Grow F σ) L (Ut H H.ars.length)->R σ'):ZD.c (aW L.p) σ R:=by
 refine ZD.o ?_;unfold ZD.v;refine KB h (ifF rfl (nilP (h.hd.rS rfl ?_)));have S:=h.arowL;have X:=h.s.a2;refine ZS (a:=bN) (λ(z:Int) w=>∃(j:Nat) (B P:Rg),z=(j:Int)/\j<=H.ars.length/\HK F σ B w P L (Ut H j)) (λz _=>H.ars.length-z.toNat) ⟨0,_,_,rfl,O,HK.start h⟩ ?_;rintro(z:Int) w ⟨j,B,P,rfl,hj,K⟩;refine ifD (λC=>?_) λD=>?_
 ·simp only at C;have u:j<H.ars.length:=by omega
  obtain⟨A,x⟩:∃A,(Ut H j).ars[j]?=some A:=⟨_,gGe (by rw[(Wez H j).2.2.2];exact u)⟩;obtain⟨Y,E,_,_⟩:=K.h.ar x;have d:=U0 (H:=H) j;rw[x]at d;simp only at d;refine K.h.rA E ?_;obtain⟨G,Z,V,g⟩:=K.h.stepA0 x E;have r:=hI j A u x;refine Wlz V r λW Q N=>?_;obtain⟨J,M⟩:=g W (U4 A) (Wa8 _ A r).1 Q N;have K1:=K.to J M λb _ U=>U;rw[←d]at K1;exact arN (m:=j+1) O O ⟨⟨j+1,_,_,rfl,O,K1⟩,O⟩
 ·have y:j=H.ars.length:=by simp only at D;omega
  subst y;exact hR w K.e (K.fin h)
def QC (H:Hw)(want:Int)(n:Nat):Hw×Nat:=(List.range n).foldl (λ(p:Hw×Nat) k=>if want<=(p.2:Int)then p else match p.1.ars[k]? with
 | some A=>({p.1.setA k (relS A p.1.sp (want-p.2)).1 with sp:=(relS A p.1.sp (want-p.2)).2},p.2+relV A (want-p.2))
 | none=>p) (H,0)
theorem UJ (want:Int)(n:Nat):QC H want (n+1)=(if want<=((QC H want n).2:Int)then QC H want n else match (QC H want n).1.ars[n]? with
 | some A=>({(QC H want n).1.setA n (relS A (QC H want n).1.sp (want-(QC H want n).2)).1 with sp:=(relS A (QC H want n).1.sp (want-(QC H want n).2)).2},(QC H want n).2+relV A (want-(QC H want n).2))
 | none=>QC H want n):=by
 unfold QC;rw[zAB,zAS];rfl
theorem WbD {want:Int}{j:Nat}(h:want<=((QC H want j).2:Int)):∀n,j<=n->QC H want n=QC H want j
 | 0,hn=>by rw[show j=0 by omega]
 | n+1,hn=>by
  by_cases e:j=n+1
  ·rw[e]
  ·have ih:=WbD h n O;rw[UJ,ih,zB h]
theorem Wgn (H:Hw)(want:Int)(n:Nat):Z9 (QC H want n).1 H:=by
 induction n with
 | zero=>exact Z9.refl H
 | succ n ih=>
  rw[UJ];split
  ·exact ih
  ·split
   ·exact ih.trans (Z8 _ _ _ _)
   ·exact ih
theorem Wer (h:HH σ F L H)(want:Int)(hw9:want<=9223372036854775807)(h12:∀n A,n<H.ars.length->(QC H want n).1.ars[n]?=some A->(Vv (YK A).st).length<=12)(hb:∀n,n<=H.ars.length->(QC H want n).2<=1000000){R:Int->Int->Hp->Prop}
 (h1:want<0->R 0 1 σ) (hR:0<=want->∀σ',Ext F σ σ'->HH σ' (Grow F σ) L (QC H want H.ars.length).1->R (((QC H want H.ars.length).2:Nat):Int) 0 σ'):Yx.c (aW L.p) want σ R:=by
 refine Yx.o ?_;unfold Yx.v;refine KB h (ifF rfl (ifD (λE=>h1 E) λE=>nilP (h.hd.rS rfl ?_)));have hR:=hR O;have U:=h.arowL;have S:=h.s.a2;refine Ko (a:=bN) (bb:=bN) (λ(x z:Int) w=>∃(j:Nat) (B P:Rg),z=(j:Int)/\x=((QC H want j).2:Int)/\j<=H.ars.length/\HK F σ B w P L (QC H want j).1) (λ_ z _=>H.ars.length-z.toNat) ⟨0,_,_,rfl,rfl,O,HK.start h⟩ ?_;rintro(x:Int) (z:Int) w ⟨j,B,P,rfl,rfl,hj,K⟩;refine ifD (λC=>?_) λD=>?_
 ·simp only at C;have g:j<H.ars.length:=by omega
  obtain⟨A,r⟩:∃A,(QC H want j).1.ars[j]?=some A:=⟨_,gGe (by rw[(Wgn H want j).2.2.2];exact g)⟩;obtain⟨Y,G,_,_⟩:=K.h.ar r;have M:=hb j hj;have J:=hb (j+1) O;refine K.h.rA G (ifD (λu=>?_) λu=>?_)
  ·rw[WbD O H.ars.length hj]at hR;exact hR w K.e (K.fin h)
  ·have d:=UJ (H:=H) want j;rw[zA O,r]at d;simp only at d;refine ar O O (Wc7 K.h r G _ (h12 j A g r) λW N h1=>?_);have K1:=K.to N h1 λb _ hb=>hb;have V:(QC H want (j+1)).2=(QC H want j).2+relV A (want-(QC H want j).2):=by rw[d]
   have Q:(QC H want (j+1)).1 = {(QC H want j).1.setA j (relS A (QC H want j).1.sp (want-(QC H want j).2)).1 with sp:=(relS A (QC H want j).1.sp (want-(QC H want j).2)).2}:=by rw[d]
   rw[←Q]at K1;exact arN (m:=(QC H want (j+1)).2) O O (arN (m:=j+1) O O ⟨⟨j+1,_,_,rfl,rfl,O,K1⟩,O⟩)
 ·have y:j=H.ars.length:=by simp only at D;omega
  subst y;exact hR w K.e (K.fin h)
end Go.Ar
namespace Go.Ar
variable {A:AR}
theorem Wgv (h:GA A)(hn:A.n<=208)(hlow:∀p,p<16->A.f p=0):(Vv (YK A).st).length<=12:=by
 obtain⟨o,_,_⟩:=Uw h;have a:(YK A).st.length=A.n:=by rw[o.ga.pg.len,o.kp.n]
 have g:∀p,p<16->(YK A).f p=0:=λp d=>(o.kp.z p).2 (hlow p d);have b:=h.pg.n1;unfold Vv;rw[a];have e:List.range (A.n/16)=0::(List.range (A.n/16-1)).map Nat.succ:=by
  rw[←zFR];congr 1;omega
 rw[e,zCK];have i:cntR (YK A).st (16*0) (16*0+16) 2=0:=(Hc O (by rw[a];omega)).2 λp r m j=>by
  have:=g p O;unfold AR.f at this;omega
 rw[i];have:¬(decide (0<0)=true):=by simp
 rw[zA this];refine zI (zBA _ _) ?_;rw[za,zBS];omega
def newW (tb:List Cls)(n room m:Nat):Wd:=⟨tb,Vp n,List.replicate m (newA n room tb),[]⟩
theorem WmD {n room:Nat}{tb:List Cls}(h1:32<=n)(h2:n<=1024)(h3:n%16=0)(h6:tb.length<=40)(h7:∀c∈tb,c.ok):GA (newA n room tb)/\∀p,(newA n room tb).f p=0:=by
 have g:∀p,(newA n room tb).f p=0:=λp=>by
  show(List.replicate n 0).getD p 0=0;rw[zM,zAU];split<;>rfl
 have b:∀{k:Nat} {i:List SpA},(List.replicate tb.length ([]:List SpA))[k]?=some i->i=[]:=λh=>by
  rw[zAU]at h;split at h<;>simp at h;exact h
 have a:∀{k:Nat} {t:TrA},(List.replicate tb.length (⟨0,[]⟩:TrA))[k]?=some t->t.bs=[]:=λh=>by
  rw[zAU]at h;split at h<;>simp at h;rw[←h]
 refine⟨⟨⟨by simp[newA],h1,h2,h3,λp=>by rw[g];omega,λp=>by rw[g];simp[newA],λp=>by rw[g];simp[newA,Go.Bu.emptyS],λp=>by rw[g,g]⟩,h6,by simp[newA],by simp[newA],λk c i d=>?_,λk c i d s m=>?_,λk c i d p=>?_,λp=>?_,λp=>.inr (Nat.zero_le _),by simp[newA],by simp[newA],λk t j=>?_,λk c i t d j=>?_,λk c t d j=>?_⟩,g⟩
 ·have e:=b d.2;subst e;exact⟨h7 c (zE d.1),by simp,by simp⟩
 ·have e:=b d.2;subst e;simp at m
 ·have e:=b d.2;subst e;constructor
  ·intro h;cases h
  ·rintro⟨s,m,_⟩;simp at m
 ·constructor
  ·intro h;cases h
  ·rintro⟨r,hr,_⟩;simp[newA]at hr
 ·have:=a j;rw[this];exact zCQ
 ·have:=a j;rw[this];simp
 ·have:=a j;rw[this];simp
theorem Wms {tb:List Cls}{n room m:Nat}(h1:32<=n)(h2:n<=1024)(h3:n%16=0)(h6:tb.length<=40)(h7:∀c∈tb,c.ok):WI (newW tb n room m):=by
 obtain⟨w,d⟩:=WmD (room:=room) h1 h2 h3 h6 h7;have get:∀{k:Nat} {A:AR},(newW tb n room m).ars[k]?=some A->A=newA n room tb:=λ{k A} h=>by
  have h:(List.replicate m (newA n room tb))[k]?=some A:=h;rw[zAU]at h;split at h<;>simp at h;exact h.symm
 have b:∀p,gf (Vp n).st p=0:=λp=>by
  show(List.replicate n 0).getD p 0=0;rw[zM,zAU];split<;>rfl
 refine⟨λk A h=>by rw[get h];exact w,λk A h=>?_,λk A h=>by rw[get h];rfl,λk A h p a=>by rw[get h];exact d p,λp a=>(a (b p)).elim,λp k l A B D F h1 h2=>?_,zCQ,λp a=>by simp[newW]at a,λk A h j y g=>?_,λk A h r u=>?_⟩
 ·rw[get h];exact⟨by simp[newW,Vp,newA],λp a=>(a (d p)).elim,λp a=>by rw[d p]at a;omega,λp=>by show gf (Vp n).st p<=2;rw[b];omega⟩
 ·rw[get D]at h1;exact(h1 (d p)).elim
 ·rw[get h]at g;obtain⟨c,C,x,z⟩:=g;have e:C=[]:=by
   have h2:=x.2;simp only[newA]at h2;rw[zAU]at h2;split at h2<;>simp at h2;exact h2
  subst e;obtain⟨G,s,i,E,_⟩:=(Ua (w.cen _ _ _ x)).1 z;simp at E
 ·rw[get h]at u;simp[newA]at u
end Go.Ar
namespace Go.Ar
open Go.Vc (mget mset mdel)
variable {H H':Hw}{held:List Pc}{s0:Sp}{t k j:Nat}{g:Th}{A:AR}{c:Cls}
theorem Wox {tb:List Cls}{cf:Cf}(h1:32<=cf.pages)(h2:cf.pages<=1024)(h3:cf.pages%16=0)(h4:1<=cf.arenas)(h6:tb.length<=40)(h7:∀c∈tb,c.ok):HI (Ud tb cf) [] (Vp cf.pages):=by
 have w:=Wms (tb:=tb) (n:=cf.pages) (room:=cf.room) (m:=cf.arenas) h1 h2 h3 h6 h7;have i:∀g∈(Ud tb cf).ths,g=⟨List.replicate tb.length liN,[],none⟩:=λg d=>(zFE.1 d).2;have r:∀k,(List.replicate tb.length liN).getD k liN=liN:=λk=>by
  rw[zM,zAU];split<;>rfl
 refine⟨w,Sim.refl _,λk x=>?_,zCQ,λe z=>by simp[Ud]at z,λg d s a j=>?_,λg d=>?_,h7,?_,?_⟩
 ·have B:∀(n:Nat) (f:Th->Nat) (g:Th),f g=0->((List.replicate n g).map f).sum=0:=λn f g h=>by
   rw[zDH,h]
   induction n with
   | zero=>rfl
   | succ n ih=>rw[zEU,zr,ih]
  have u:cnT ⟨List.replicate tb.length liN,[],none⟩ k x=0:=by
   unfold cnT cnL;split
   ·simp only[r];rfl
   ·rfl
  have:cnH (Ud tb cf) k x=0:=by
   unfold cnH;show cnV [] k x+((List.replicate cf.threads (⟨List.replicate tb.length liN,[],none⟩:Th)).map λg=>cnT g k x).sum=0;rw[B _ _ _ u];rfl
  rw[this,QP];rintro⟨p,j,_⟩;simp at j
 ·rw[i g d]at j;cases j
 ·rw[i g d];refine⟨by simp[Ud],λl y=>?_,λb A=>by simp at A,by simp,by unfold PhI;rfl⟩;rw[(zFE.1 y).2];exact⟨LiOk.nil,by simp[liN]⟩
 ·show 1<=(List.replicate cf.arenas (newA cf.pages cf.room tb)).length;simpa using h4
 ·show(List.replicate cf.pages 0).length=cf.pages;simp
def KL (H H':Hw):Prop:=∀e∈H.live,∀w:Nat,e.1<=((8*w:Nat):Int)->((8*w:Nat):Int)<e.1+e.2.2.1->H'.sp.wd w=H.sp.wd w
theorem HI.wi' (h:HI H held s0):WI ⟨H.tb,s0,H.ars,held⟩:=h.wi
theorem HI.mapped (h:HI H held s0){p:Pc}(hp:p∈held){x:Nat}(h1:p.addr<=x)(h2:x<p.addr+p.size):gf H.sp.st (x/256)≠0:=by
 obtain⟨A,a,_⟩:=h.wi.hf p hp;have b:=h.wi.page hp a h1 h2;have:=(h.wi.ow _ A a).own (x/256) O;intro hz;exact this ((h.sim.z _).1 hz)
theorem HI.kl (h:HI H held s0)(k:KS H.sp H'.sp):KL H H':=λe b w m g=>by
 obtain⟨_,p,a,_,_,j,i,_⟩:=h.lv e b;have d:=h.mapped a (x:=8*w) O O;exact(k.k _ d).2 w O
theorem KL.refl (H:Hw):KL H H:=λ_ _ _ _ _=>rfl
theorem KL.trans {H1 H2 H3:Hw}(a:KL H1 H2)(b:KL H2 H3)(hl:∀e∈H1.live,e∈H2.live):KL H1 H3:=λe i w d g=>(b e (hl e i) w d g).trans (a e i w d g)
structure ArOk (H H':Hw):Prop where
 hi:∃held s0,HI H' held s0
 live:H'.live=H.live
 ths:H'.ths=H.ths
 kp:Z9 H' H
 kl:KL H H'
theorem ArOk.refl (h:HI H held s0):ArOk H H:=⟨⟨_,_,h⟩,rfl,rfl,Z9.refl _,KL.refl _⟩
theorem ArOk.trans {H1 H2 H3:Hw}(a:ArOk H1 H2)(b:ArOk H2 H3):ArOk H1 H3:=⟨b.hi,b.live.trans a.live,b.ths.trans a.ths,a.kp.trans b.kp,a.kl.trans b.kl λe d=>by rw[a.live];exact d⟩
theorem HI.n (h:HI H held s0)(hk:H.ars[k]?=some A):A.n=H.cf.pages:=by
 have:=(h.wi.ow k A hk).l;have b:=h.sim.l;have a:=h.sl;simp only at this;omega
theorem HI.few (h:HI H held s0)(h208:H.cf.pages<=208)(hk:H.ars[k]?=some A):(Vv (YK A).st).length<=12:=Wgv (h.wi.ga k A hk) (by rw[h.n hk];exact h208) (h.wi.low k A hk)
theorem WoO (h:HI H held s0)(hk:H.ars[k]?=some A){B:AR}{s0' sp':Sp}(wi:WI ⟨H.tb,s0',H.ars.set k B,held⟩)(hw:∀w,B.f (w/32)=1->sp'.wd w=H.sp.wd w)(hoth:∀w,A.f (w/32)=0->B.f (w/32)=0->sp'.wd w=H.sp.wd w):KL H {H.setA k B with sp:=sp'}:=by
 intro e he w h1 h2;obtain⟨_,p,d,_,_,r,s,_⟩:=h.lv e he;obtain⟨C,j,_⟩:=h.wi.hf p d;obtain⟨D,a,_⟩:=wi.hf p d;have m:=h.wi.page d j (x:=8*w) O O;have i:=wi.page d a (x:=8*w) O O;rw[show 8*w/256=w/32 by omega]at m i;have b:=(gSi.1 hk).1;by_cases hpk:p.k=k
 ·have g:(H.ars.set k B)[k]?=some B:=zL b;have a:(H.ars.set k B)[p.k]?=some D:=a;rw[hpk,g]at a;cases a;exact hw w i
 ·refine hoth w ?_ ?_
  ·apply Classical.byContradiction;intro hn;exact hpk (h.wi.one (w/32) p.k k C A j hk O hn)
  ·have g:(H.ars.set k B)[k]?=some B:=zL b;apply Classical.byContradiction;intro hn;exact hpk (wi.one (w/32) p.k k D B a g O hn)
theorem WnV (h:HI H held s0)(hk:H.ars[k]?=some A)(want:Int):ArOk H {H.setA k (relS A H.sp want).1 with sp:=(relS A H.sp want).2}:=by
 have ga:=h.wi.ga k A hk;obtain⟨j,g,C⟩:=h.sim.relS A want;obtain⟨s,u,B,y⟩:=WmG ga (h.wi.ow k A hk) want;have wi:=h.wi.stepSame hk s u y B;rw[show(Wd.mk H.tb s0 H.ars held).sp=s0 from rfl,←j]at wi;have r:=h.updA wi g C (by simp[Wd.put]) (λ_ _=>Iff.rfl) (λp m _=>m);have key:KL H {H.setA k (relS A H.sp want).1 with sp:=(relS A H.sp want).2}:=by
  by_cases h0:want<0
  ·have:relS A H.sp want=(A,H.sp):=by unfold relS;rw[zB h0]
   rw[this];exact λ_ _ _ _ _=>rfl
  ·obtain⟨z,_⟩:=Whl ga (h.wi.ow k A hk) (want:=want) O;have b:=Uw ga;have a:∀w,¬inR (VU A want) (w/32)->(relS A H.sp want).2.wd w=H.sp.wd w:=λw e=>by
    rw[g.w,z.wd w e,h.sim.w]
   refine WoO h hk wi (λw e=>a w λd=>?_) λw x _=>a w λd=>?_
   ·have:=(z.i _ d).2.1;rw[j]at e;simp only at this;omega
   ·have:=(z.i _ d).1;have:=(b.1.kp.z (w/32)).2 x;omega
 exact⟨⟨_,_,r⟩,rfl,rfl,Z8 _ _ _ _,key⟩
theorem WmY (h:HI H held s0)(hk:H.ars[k]?=some A):ArOk H {H.setA k (trimS A H.sp).1 with sp:=(trimS A H.sp).2}:=by
 have ga:=h.wi.ga k A hk;obtain⟨g,e,r⟩:=h.sim.trimS A;have z:=Wki ga (h.wi.ow k A hk);have wi:=h.wi.stepSame hk z.st z.runs (λj y=>by unfold TkA Cl;rw[z.st.tb,z.cen]) z.tra;rw[show(Wd.mk H.tb s0 H.ars held).sp=s0 from rfl,←g]at wi;have i:=h.updA wi e r (by simp[Wd.put]) (λ_ _=>Iff.rfl) (λp m _=>m);have a:∀w,w/32/16∉Ki A.st 0->(trimS A H.sp).2.wd w=H.sp.wd w:=λw b=>by
  rw[e.w,z.wd w b,h.sim.w]
 have key:KL H {H.setA k (trimS A H.sp).1 with sp:=(trimS A H.sp).2}:=by
  refine WoO h hk wi (λw b=>a w λd=>?_) λw s _=>a w λd=>?_
  ·rw[g,z.f,zB d]at b;omega
  ·have:=((Wd0 ga).1 d).2 (w/32) rfl;omega
 exact⟨⟨_,_,i⟩,rfl,rfl,Z8 _ _ _ _,key⟩
theorem WnI (h:HI H held s0)(hk:H.ars[k]?=some A):ArOk H (H.setA k (U4 A)):=by
 have wi:=h.wi.tick hk;have a:=h.updA (sp':=H.sp) wi h.sim rfl (by simp[Wd.put]) (Wl5 _) (λp b _=>(zH.1 b).1);exact⟨⟨_,_,a⟩,rfl,rfl,Z8 _ _ _ H.sp,λ_ _ _ _ _=>rfl⟩
theorem WhF (h:HI H held s0)(n:Nat):ArOk H (Ut H n):=by
 induction n with
 | zero=>exact ArOk.refl h
 | succ n ih=>
  rw[U0];split
  ·rename_i A hA;obtain⟨a,d,b⟩:=ih.hi;exact ih.trans (WnI b hA)
  ·exact ih
theorem WhA (st:List Nat)(k:Nat):(Ki st k).length<=st.length/16:=by
 unfold Ki;exact zI (zBA _ _) aA
theorem Whw (h:HI H held s0)(n:Nat):ArOk H (QG H n).1/\(QG H n).2<=n*64:=by
 induction n with
 | zero=>exact⟨ArOk.refl h,zD _⟩
 | succ n a=>
  obtain⟨a,m⟩:=a;rw[UZ];split
  ·rename_i A hA;obtain⟨b,e,d⟩:=a.hi;refine⟨a.trans (WmY d hA),?_⟩;have ga:=d.wi.ga n A hA;have j:=WhA A.st 0;have g:=ga.pg.len;have i:=ga.pg.n2;simp only[WgZ];omega
  ·exact⟨a,O⟩
theorem WaI (st:List Nat)(e:Nat):∀(f p:Nat),(QX st e f p).length<=f/\∀r∈QX st e f p,r.2<=e-p
 | 0,p=>⟨by simp[QX],by simp[QX]⟩
 | f+1,p=>by
  unfold QX;split
  ·exact⟨by simp,by simp⟩
  ·split
   ·obtain⟨h1,h2⟩:=WaI st e f (p+1);exact⟨O,λr a=>by have:=h2 r a;omega⟩
   ·obtain⟨h1,h2⟩:=WaI st e f (p+runL st p (e-p)+1);refine⟨by simp;omega,λr a=>?_⟩;rcases zQ.1 a with rfl|a
    ·have:runL st p (e-p)<=e-p:=by
      unfold runL;refine zI (List.Sublist.length_le (List.takeWhile_sublist _)) ?_;rw[zO];omega
     exact this
    ·have:=h2 r a;omega
theorem sum_le {α:Type}(f:α->Nat)(c:Nat):∀l:List α,(∀x∈l,f x<=c)->(l.map f).sum<=l.length*c
 | [],_=>by simp
 | x::l,h=>by
  have h1:=sum_le f c l λy a=>h y (by simp[a]);have b:=h x aA;rw[zJ,zr,zP,zj];omega
theorem WnN (h:GA A)(want:Int):relV A want<=17408:=by
 unfold relV;split
 ·omega
 ·have g:=(Uw h).1;have u:(YK A).st.length<=1024:=by rw[g.ga.pg.len];exact g.ga.pg.n2
  unfold VU HA;have a:=WcR want 0 ((ordT (YK A).st).flatMap (KK (YK A).st));have b:∀x,(KK (YK A).st x).length<=17/\∀r∈KK (YK A).st x,r.2<=16:=λx=>by
   have:=WaI (YK A).st (16*x+16) 17 (16*x);exact⟨this.1,λr d=>by have:=this.2 r d;omega⟩
  have i:((ordT (YK A).st).flatMap (KK (YK A).st)).length<=64*17:=by
   rw[List.length_flatMap];refine zI (sum_le (λx=>(KK (YK A).st x).length) 17 _ λx _=>(b x).1) ?_;have p:=(WdF (YK A).st).length_eq;have m:=zBA (λh=>decide (0<cntR (YK A).st (16*h) (16*h+16) 2)) (List.range ((YK A).st.length/16));rw[zBS]at m;have:(ordT (YK A).st).length<=64:=by omega
   omega
  have e:∀r∈(ordT (YK A).st).flatMap (KK (YK A).st),r.2<=16:=λr d=>by
   obtain⟨x,_,j⟩:=zCP.1 d;exact(b x).2 r j
  have s:=sum_le (λr:Nat×Nat=>r.2) 16 (cutW want 0 ((ordT (YK A).st).flatMap (KK (YK A).st))) λr d=>e r (a.subset d);have w:=a.length_le;omega
theorem Wli (h:HI H held s0)(want:Int)(n:Nat):ArOk H (QC H want n).1/\(QC H want n).2<=n*17408:=by
 induction n with
 | zero=>exact⟨ArOk.refl h,zD _⟩
 | succ n a=>
  obtain⟨a,d⟩:=a;rw[UJ];split
  ·exact⟨a,zI d (zAJ _ (Nat.le_succ n))⟩
  ·split
   ·rename_i A hA;obtain⟨b,g,e⟩:=a.hi;refine⟨a.trans (WnV e hA _),?_⟩;have:=WnN (e.wi.ga n A hA) (want-((QC H want n).2:Int));simp only;omega
   ·exact⟨a,zI d (zAJ _ (Nat.le_succ n))⟩
theorem WI.wd {W:Wd}(h:WI W)(f:Nat->Int):WI {W with sp:={W.sp with wd:=f}}:=
 ⟨h.ga,λk A hk=>⟨(h.ow k A hk).l,(h.ow k A hk).own,(h.ow k A hk).cl,(h.ow k A hk).le⟩,h.tb,h.low,h.own,h.one,h.hk,h.hf,h.ht,h.hr⟩
theorem Wi7 {sp:Sp}{x:Int}(h:accE sp x=0):0<=x/\x%8=0/\gf sp.st (x.toNat/256)≠0:=by
 unfold accE at h;split at h
 ·cases h
 ·split at h
  ·cases h
  ·exact⟨O,O,by assumption⟩
theorem WhL (sp:Sp)(x v:Int):(US sp x v).st.length=sp.st.length/\(∀p,gf (US sp x v).st p=0↔gf sp.st p=0)/\∀w,(US sp x v).wd w=if accE sp x=0/\w=x.toNat/8 then v else sp.wd w:=by
 unfold US;split
 ·rename_i h0;have a:=Wi7 h0;refine⟨by simp[putW],λp=>?_,λw=>?_⟩
  ·show gf (sp.st.set (x.toNat/8/32) 2) p=0↔_;have b:x.toNat/8/32=x.toNat/256:=by omega
   rw[b];unfold gf at a ⊢;rw[zM]at a ⊢;rw[zM,zBH];split
   ·rename_i he;split
    ·rw[←he];simp only[zBU];exact⟨λh=>O,λh=>(a.2.2 h).elim⟩
    ·rename_i hl;rw[zY O]at a;exact(a.2.2 rfl).elim
   ·exact Iff.rfl
  ·show(if w=x.toNat/8 then v else sp.wd w)=_
   by_cases hw:w=x.toNat/8
   ·rw[zB hw,zB ⟨h0,hw⟩]
   ·rw[zA hw,zA λh=>hw h.2]
 ·exact⟨rfl,λ_=>Iff.rfl,λw=>by rw[zA λh=>by have:=h.1;contradiction]⟩
theorem HI.write (h:HI H held s0)(x v:Int):HI {H with sp:=US H.sp x v} held {s0 with wd:=(US H.sp x v).wd}:=by
 obtain⟨a,b,_⟩:=WhL H.sp x v;exact⟨h.wi.wd _,⟨a.trans h.sim.l,λp=>(b p).trans (h.sim.z p),rfl⟩,h.cn,h.lk,h.lv,h.gv,h.th,h.ok,h.a1,a.trans h.sl⟩
end Go.Ar
namespace Go.Ar
open Go Go.Vc Go.Proofs
variable {σ u w w':Hp}{F B P Q:Rg}{L:LayH}{H H':Hw}{t n:Nat}{g:Th}
end Go.Ar
namespace Go.Proofs
open Go.Vc
set_option maxRecDepth 100000
def WU.h:Hn:=.q .o2 (.q (.q (.reg (.seq [.op,.op,.op,.grd false 2 [.op,.op]])) .aJ) (.q .o1 (.q .o1 (.q (.k (.loop [(4,.one .s),(5,.I)] (.q (.q .o2 (.c .l .l)) (.k (.q .o7 .o6))))) (.q .o6 (.q .o1 (.q (.q .o1 (.k (.loop [(6,.one .s),(7,.I)] (.q (.q .o4 (.c .l .l)) (.q (.k (.q (.reg (.heldJ true [] [(70,.one .b)] (.tk [0,1,2,3,4,5] (.split 43 (.tk [6,7,8,9,10,11,12,13,14,15,16,17,18,19,20,21,22,23,24,25,26,27,28,29,30,31,32] (.done)) (.tk [6,7,8,9,10,11,12,13,14,15,16,17,18,19] (.split 57 (.tk [20,21,22,23,24,25,26,27,28,29,30,31,32] (.done)) (.tk [20,21,22,23,25,26,27,28,29] (.all [(24,.all [(30,.take 31 (.take 32 (.done)))])])))))))) (.c .o8 .l))) .o3))))) (.q .o3 .l))))))))
def WU.v (a:Int)(b:Hp)(c:Sl->Int->Hp->Prop):Prop:=JnB (λd e=>If d (c ⟨none,0,0⟩ 1 e) (W8 [.s,bN] (λf=>f ⟨none,0,0⟩ 8 e) λg (h:Sl) (i:Int) j=>If (i<512) (Xl.c i a j λk l m n=>aV #[.I k,.I l,.I m] 31 n λo p=>App h 3 24 31 [.I 0,.I 0,.I 0] ⟨some o,1,1⟩ p λq r=>X2.c i a r λs t=>bL (i+s) λu=>g q u t) (Xl.c 512 a j λv w x y=>aV #[.I v,.I w,.I x] 31 y λz aa=>App h 3 24 31 [.I 0,.I 0,.I 0] ⟨some z,1,1⟩ aa λab ac=>W8 [.s,bN] (λad=>ad ⟨none,0,0⟩ 0 ac) λae (af:Sl) (ag:Int) ah=>If (ag<((ab.len:Nat):Int)) (Jn [.b] (λ(ai:Bool) aj=>If ai (Ix ab.a ab.len ag 3 λak=>aQ ak 0 aj λal=>aQ ak 1 aj λam=>aQ ak 2 aj λan=>aV #[.I al,.I am,.I an] 31 aj λao ap=>App af 3 24 31 [.I 0,.I 0,.I 0] ⟨some ao,1,1⟩ ap λaq ar=>bL (ag+1) λau=>ae aq au ar) (bL (ag+1) λav=>ae af av aj)) λaw=>Held ah λax=>bL (((ab.len:Nat):Int)-1) λay=>If (ag==ay) (aw true ah) (Ix ab.a ab.len ag 3 λaz=>aS ax az 1 λa0=>bL (ag+1) λa1=>Ix ab.a ab.len a1 3 λa2=>aS ax a2 1 λa3=>If (a0 != a3) (aw true ah) (Ix ab.a ab.len ag 3 λa4=>aS ax a4 0 λa5=>aS ax a4 1 λa6=>aS ax a4 2 λa7=>bL (ag+1) λa8=>Ix ab.a ab.len a8 3 λa9=>aS ax a9 0 λba=>aS ax a9 1 λbb=>aS ax a9 2 λbc=>WT.c a5 a6 a7 ah λbd be=>And (ax be) <|
 WT.c ba bb bc be λbf bg=>And (ax bg) <| aw (bd != bf) bg))) (c af 0 ah)))) λbh=>If (a<2) (bh true b) (bh (decide (a>16)) b)
theorem WU.o {a b c}(d:WU.v a b c):WU.c a b c:=Wa Tryz.func16 (x:=WU.h) (R0 d)
def WT.h:Hn:=.q .o2 (.q .o1 (.q (.k (.loop [(3,.I)] (.q (.q .o9 (.c .l .l)) (.k .o3)))) .aL))
def WT.v (a b c:Int)(d:Hp)(e:aN):Prop:=aV #[.I a,.I b,.I c] 31 d λf g=>W8 [bN] (λh=>h 0 g) λi (j:Int) k=>bL (j+1) λl=>aQ f 0 k λm=>bL (l*m) λn=>aQ f 1 k λo=>bL (o*256) λp=>If (n<=p) (bL (j+1) λq=>i q k) (e j k)
theorem WT.o {a b c d e}(f:WT.v a b c d e):WT.c a b c d e:=Wa Tryz.func18 (x:=WT.h) (R0 f)
def Xl.h:Hn:=.q .o1 (.q .o8 (.q (.q .o1 (.k (.loop [(6,.I)] (.q (.q .o2 (.c .l .l)) (.q (.k (.q (.reg (.seq [.op,.op,.op,.op,.op,.grd true 9 (RI.ops 9)])) (.c .o3 .l))) .o3))))) .aL))
def Xl.v (a b:Int)(c:Hp)(d:Int->Int->Int->Hp->Prop):Prop:=aV #[.I 0,.I 0,.I 0] 31 c λe f=>Nz a<|bL ((512:Int).tdiv a) λg=>aV #[.I 0,.I 0,.I 0] 31 f λh i=>aR h 0 (.I a) i λj=>aR h 1 (.I 4) j λk=>aR h 2 (.I (if 32<(if 2>g then 2 else g)then 32 else(if 2>g then 2 else g))) k λl=>W8 [bN] (λm=>m 4 l) λn (o:Int) p=>If (o≥1) (bL (o*256) λq=>JnB (λr s=>If r (aR h 1 (.I o) s λt=>bL (o-1) λu=>n u t) (bL (o-1) λv=>n v s)) λw=>If (q≥a) (bL (o*256) λx=>Nz a <| bL (b*(x.tmod a)) λy=>bL (o*256) λz=>w (decide (y<=z)) p) (w false p)) (aQ h 0 p λaa=>aQ h 1 p λab=>aQ h 2 p λac=>aR e 0 (.I aa) p λad=>aR e 1 (.I ab) ad λae=>aR e 2 (.I ac) ae λaf=>aQ e 0 af λag=>aQ e 1 af λah=>aQ e 2 af λai=>d ag ah ai af)
theorem Xl.o {a b c d}(e:Xl.v a b c d):Xl.c a b c d:=Wa Tryz.func47 (x:=Xl.h) (R0 e)
def X2.h:Hn:=.q .o1 (.q .o1 (.q (.k (.loop [(5,.I)] (.q (.q .o6 (.c .l .l)) (.k .o3)))) .aL))
def X2.v (a b:Int)(c:Hp)(d:aN):Prop:=W8 [bN] (λe=>e 8 c) λf (g:Int) h=>bL (2*g) λi=>Nz b<|bL (a.tdiv b) λj=>If (i<=j) (bL (2*g) λk=>f k h) (d g h)
theorem X2.o {a b c d}(e:X2.v a b c d):X2.c a b c d:=Wa Tryz.func48 (x:=X2.h) (R0 e)
end Go.Proofs
namespace Go.Ar
open Go Go.Vc Go.Proofs
variable {σ w:Hp}
abbrev T3:=Int×Int×Int
def v3 (x:T3):List Value:=[.int .i64 x.1,.int .i64 x.2.1,.int .i64 x.2.2]
def v3s (l:List T3):List Value:=l.flatMap v3
theorem Ug (l:List T3):(v3s l).length=l.length*3:=by
 induction l with
 | nil=>rfl
 | cons x l ih=>simp only[v3s,zBB,zK,v3,zP,zAO]at *;omega
theorem Wcd (l:List T3)(x:T3):v3s (l++[x])=v3s l++v3 x:=by simp[v3s]
theorem Gm:∀{l:List T3} {i:Nat} {x:T3},l[i]?=some x->∀{d:Nat},d<3->(v3s l)[i*3+d]?=(v3 x)[d]?
 | [],_,_,h,_,_=>by simp at h
 | y::l,0,x,h,d,hd=>by
  simp at h;subst h;have e:v3s (y::l)=v3 y++v3s l:=rfl;rw[e,ze (by simp[v3];omega)];congr 1;omega
 | y::l,i+1,x,h,d,hd=>by
  have e:v3s (y::l)=v3 y++v3s l:=rfl;have a:(v3 y).length=3:=rfl;rw[e,zm O,a,show(i+1)*3+d-3=i*3+d by omega];exact Gm (by simpa using h) hd
theorem WfN {Q:Rg}{s:Sl}{l:List T3}(h:Own Q σ s 3 (v3s l)):Acts σ s l:=by
 have r:=h.1;rw[Ug]at r;refine⟨O,λi x y z e=>?_⟩;obtain⟨b,d,g⟩:=h.cell (j:=i*3+0) (v:=.int .i64 x) ((Gm e O).trans rfl);obtain⟨p,a,u⟩:=h.cell (j:=i*3+1) (v:=.int .i64 y) ((Gm e O).trans rfl);rw[d]at a;cases a;obtain⟨p,a,m⟩:=h.cell (j:=i*3+2) (v:=.int .i64 z) ((Gm e O).trans rfl);rw[d]at a;cases a;refine⟨b,0,d,QF g,?_,?_,?_⟩
 ·rw[show 0+i*3=i*3+0 by omega];exact g
 ·rw[show 0+i*3+1=i*3+1 by omega];exact u
 ·rw[show 0+i*3+2=i*3+2 by omega];exact m
def WaE (s w:Int)(n:Nat):Int:=([4,3,2,1].take n).foldl (λ(r p:Int)=>if s<=p*256/\w*((p*256)%s)<=p*256 then p else r) 4
def WfL (s:Int):Int:=min 32 (max 2 (512/s))
def mCls (s w:Int):T3:=(s,WaE s w 4,WfL s)
def stF:Nat->Int->Int->Int
 | 0,d,_=>d
 | n+1,d,q=>if 2*d<=q then stF n (2*d) q else d
def Wi6 (s w:Int):Int:=stF 8 8 (s/w)
def mObj (x:T3):Int:=x.2.1*256/x.1
theorem Whe (s w:Int)(n:Nat):1<=WaE s w n/\WaE s w n<=4:=by
 have key:∀(l:List Int) (r:Int),(∀p∈l,1<=p/\p<=4)->1<=r/\r<=4->1<=l.foldl (λ(r p:Int)=>if s<=p*256/\w*((p*256)%s)<=p*256 then p else r) r/\l.foldl (λ(r p:Int)=>if s<=p*256/\w*((p*256)%s)<=p*256 then p else r) r<=4:=by
  intro l
  induction l with
  | nil=>intro r _ h;exact h
  | cons p l ih=>
   intro r hl hr;rw[zAI];refine ih _ (λq a=>hl q (zAM _ a)) ?_;split
   ·exact hl p zAP
   ·exact hr
 refine key _ _ (λp b=>?_) O;have:=zAY b;simp at this;omega
theorem WdV (s w:Int)(h1:8<=s)(h2:s<=512)(hw1:2<=w)(hw2:w<=16){R:Int->Int->Int->Hp->Prop}(hR:∀σ',Ext0 σ σ'->R (mCls s w).1 (mCls s w).2.1 (mCls s w).2.2 σ'):Xl.c s w σ R:=by
 refine Xl.o ?_;unfold Xl.v;have U:1<=512/s/\512/s<=64:=⟨by rw[Int.le_ediv_iff_mul_le O];omega,Int.ediv_le_of_le_mul O O⟩;refine nw (cs:=[.int .i64 0,.int .i64 0,.int .i64 0]) λv hz e hb=>nz O (ar (by rw[YM O];omega) (by rw[YM O];omega) ?_);rw[YM O];refine nw (cs:=[.int .i64 0,.int .i64 0,.int .i64 0]) λv1 N F D=>D.s1 aA λv2 o2 C=>C.s1 aA λP o3 j=>j.s1 aA λv4 o4 K=>?_;have b:σ.size≠v.size:=by omega
 have B:=Ws o4 (Ws o3 (Ws o2 (F.blk hb id) b) b) b;have S:Ext0 σ v4:=((((e.trans F).only o2 (.inr O)).only o3 (.inr O)).only o4 (.inr O));have m:(if 32<(if 2>512/s then 2 else 512/s)then 32 else(if 2>512/s then 2 else 512/s))=WfL s:=by unfold WfL;omega
 rw[m]at K;refine ZS (a:=bN) (λ(z:Int) u=>∃n:Nat,n<=4/\z=4-(n:Int)/\Ext0 σ u/\Blk u σ.size [.int .i64 0,.int .i64 0,.int .i64 0]/\Blk u v.size [.int .i64 s,.int .i64 (WaE s w n),.int .i64 (WfL s)]) (λz _=>z.toNat) ⟨0,O,rfl,S,B,K⟩ ?_;rintro(z:Int) u ⟨n,hn,rfl,eu,hu,bu⟩;refine ifD (λQ=>?_) λZ=>?_
 ·have L:n<4:=by omega
  have d:WaE s w (n+1)=if s<=(4-(n:Int))*256/\w*(((4-(n:Int))*256)%s)<=(4-(n:Int))*256 then 4-(n:Int)else WaE s w n:=by
   have W:([4,3,2,1]:List Int)[n]?=some (4-(n:Int)):=by
    rcases(show n=0\/n=1\/n=2\/n=3 by omega)with rfl|rfl|rfl|rfl<;>rfl
   unfold WaE;rw[zh,W,zAS];rfl
  refine ar O O ?_;refine UP (λr H=>H=u/\r=decide (s<=(4-(n:Int))*256/\w*(((4-(n:Int))*256)%s)<=(4-(n:Int))*256)) (λr H ⟨A,x⟩=>?_) λJ G=>?_
  ·subst A;by_cases hc:s<=(4-(n:Int))*256/\w*(((4-(n:Int))*256)%s)<=(4-(n:Int))*256
   ·rw[zW hc]at x;rw[zB hc]at d;refine ifT x (bu.s1 aA λX o1 y=>ar O O ⟨⟨n+1,O,O,eu.only o1 (.inr O),Ws o1 hu b,by rw[d];exact y⟩,O⟩)
   ·rw[zd hc]at x;rw[zA hc]at d;exact ifF x (ar O O ⟨⟨n+1,O,O,eu,hu,by rw[d];exact bu⟩,O⟩)
  ·have g:=Int.emod_nonneg ((4-(n:Int))*256) (show s≠0 by omega);have V:=Int.emod_lt_of_pos ((4-(n:Int))*256) (show 0<s by omega);have M:w*(((4-(n:Int))*256)%s)<=16*512:=Int.mul_le_mul hw2 O g O;have Y:0<=w*(((4-(n:Int))*256)%s):=Int.mul_nonneg O g;refine ifD (λh1=>ar O O (nz O ?_)) λh1=>G _ _ ⟨rfl,(zd λp=>h1 p.1).symm⟩;rw[Q7 O];refine ar O O (ar O O (G _ _ ⟨rfl,?_⟩));rw[decide_eq_decide];exact⟨λp=>⟨h1,p⟩,λp=>p.2⟩
 ·have E:n=4:=by omega
  subst E;refine bu.rI rfl (bu.rI rfl (bu.rI rfl (hu.s1 aA λX o1 y=>y.s1 aA λu2 o2 C=>C.s1 aA λu3 o3 j=>j.rI rfl (j.rI rfl (j.rI rfl (hR u3 ?_))))));exact((eu.only o1 (.inr O)).only o2 (.inr O)).only o3 (.inr O)
theorem WkY (s w:Int)(h1:8<=s)(h2:s<=512)(hw1:2<=w){R:aN}(hR:8<=Wi6 s w->Wi6 s w<=256->R (Wi6 s w) σ):X2.c s w σ R:=by
 refine X2.o ?_;unfold X2.v;have g:0<=s/w/\s/w<=256:=⟨Int.ediv_nonneg O O,by
  have:s/w<=s/2:=by
   apply Int.le_ediv_of_mul_le O;have:=Int.ediv_mul_le s (show w≠0 by omega);have j:s/w*2<=s/w*w:=Int.mul_le_mul_of_nonneg_left hw1 (Int.ediv_nonneg O O);omega
  omega⟩
 refine ZS (a:=bN) (λ(d:Int) u=>u=σ/\∃n:Nat,stF n d (s/w)=Wi6 s w/\8<=d/\d<=256/\512<=d*2^n) (λd _=>1000-d.toNat) ⟨rfl,8,rfl,O,O,by decide⟩ ?_;rintro(d:Int) u ⟨rfl,n,hst,hd1,hd2,hdn⟩;refine ar O O (nz O (ar (by rw[YM O];omega) (by rw[YM O];omega) ?_));rw[YM O];cases n with
 | zero=>simp at hdn;omega
 | succ n=>
  refine ifD (λe=>ar O O ⟨⟨rfl,n,?_,O,O,?_⟩,O⟩) λb=>?_
  ·rw[stF,zB e]at hst;exact hst
  ·rw[Int.pow_succ]at hdn;have:2*d*2^n=d*(2^n*2):=by rw[Int.mul_comm 2 d,Int.mul_assoc,Int.mul_comm 2 (2^n)]
   omega
  ·rw[stF,zA b]at hst;rw[←hst]at hR;exact hR hd1 hd2
theorem Wjw (x:T3)(h1:8<=x.1)(h2:x.1<=512)(h3:1<=x.2.1)(h4:x.2.1<=4){R:aN}(hR:∀σ',Ext0 σ σ'->R (mObj x) σ'):WT.c x.1 x.2.1 x.2.2 σ R:=by
 refine WT.o ?_;unfold WT.v;refine nw (cs:=[.int .i64 x.1,.int .i64 x.2.1,.int .i64 x.2.2]) λv w e m=>?_;refine ZS (a:=bN) (λ(n:Int) u=>Ext0 σ u/\Blk u σ.size [.int .i64 x.1,.int .i64 x.2.1,.int .i64 x.2.2]/\0<=n/\n<=128/\n*x.1<=x.2.1*256) (λn _=>1000-n.toNat) ⟨e,m,O,O,O⟩ ?_;rintro(n:Int) u ⟨eu,bu,hn0,hn1,hn⟩;have s:(n+1)*x.1<=129*512:=Int.mul_le_mul O h2 O O;have j:0<=(n+1)*x.1:=Int.mul_nonneg O O;refine ar O O (bu.rI rfl (ar O O (bu.rI rfl (ar O O ?_))));refine ifD (λb=>ar O O ⟨⟨eu,bu,O,?_,b⟩,O⟩) λg=>?_
 ·have:(n+1)*8<=(n+1)*x.1:=Int.mul_le_mul_of_nonneg_left h1 O;omega
 ·have:mObj x=n:=by
   unfold mObj;have r:n<=x.2.1*256/x.1:=(Int.le_ediv_iff_mul_le O).2 hn;have p:x.2.1*256/x.1<n+1:=(Int.ediv_lt_iff_lt_mul O).2 O;omega
  have d:=hR u eu;rw[this]at d;exact d
def allF:Nat->Int->Int->List T3
 | 0,_,_=>[]
 | n+1,s,w=>if s<512 then mCls s w::allF n (s+Wi6 s w) w else[]
def allM (w:Int):List T3:=allF 64 8 w++[mCls 512 w]
def Wba (l:List T3)(i:Nat):Bool:=i==l.length-1||(match l[i]?,l[i+1]? with
 | some x,some y=>x.2.1 != y.2.1||mObj x != mObj y
 | _,_=>false)
def outM (l:List T3)(n:Nat):List T3:=(List.range n).filterMap λi=>if Wba l i then l[i]? else none
def WcL (w:Int):List T3:=outM (allM w) (allM w).length
def T3ok (x:T3):Prop:=8<=x.1/\x.1<=512/\1<=x.2.1/\x.2.1<=4
theorem Wio (s w:Int)(h1:8<=s)(h2:s<=512):T3ok (mCls s w):=⟨h1,h2,Whe s w 4⟩
theorem app3 {Q:Rg}{s:Sl}{l:List T3}{e1 e2:Nat}(ho:Own Q σ s 3 (v3s l))(hQ:∀b,σ.size<=b->Q b)(hl:l.length<=1000)(x:T3){K:Sl->Hp->Prop}(hK:∀s' σ',Ext Q σ σ'->Own Q σ' s' 3 (v3s (l++[x]))->K s' σ') :
 Nw (.cells #[.int .i64 x.1,.int .i64 x.2.1,.int .i64 x.2.2] e1 (0,0)) σ λn20 v3=>App s 3 24 e2 [.int .i64 0,.int .i64 0,.int .i64 0] ⟨some n20,1,1⟩ v3 K:=by
 have g:s.len=l.length:=by have:=ho.1;rw[Ug]at this;omega
 refine nw (cs:=v3 x) λv p e a=>?_;refine(ho.keep0 e).app (ys:=v3 x) (λb a=>hQ b O) rfl rfl ?_ (by simp[v3,one1]) ?_ ?_ zBG λs' i _ m d _=>hK s' i ?_ ?_
 ·intro j u hu;rw[add_lit,zG,a.cell];exact hu
 ·simp only;have:(s.len+1)*24<=1001*24:=zAF O O;omega
 ·simp only;omega
 ·exact(Ext0.to e).trans (m.sub λb a=>((ho.keep0 e).blk_lt a).1)
 ·rw[Wcd];exact d
theorem Wkv (w:Int)(h:w<2\/16<w){R:Sl->Int->Hp->Prop}(hR:R ⟨none,0,0⟩ 1 σ):WU.c w σ R:=by
 refine WU.o ?_;unfold WU.v;exact JnB.intro (ifD (λa=>ifT rfl hR) λa=>ifT (zW O) hR)
theorem Whk (w:Int)(hw1:2<=w)(hw2:w<=16){R:Sl->Int->Hp->Prop}(hR:∀s' σ',Ext0 σ σ'->Acts σ' s' (WcL w)->R s' 0 σ'):WU.c w σ R:=by
 refine WU.o ?_;unfold WU.v;refine JnB.intro (ifDF O (ifF (zd O) ?_));refine Ko (a:=.s) (bb:=bN) (λ(all:Sl) (s:Int) u=>∃(n:Nat) (done:List T3),8<=s/\s<=768/\Ext0 σ u/\Own (λb=>σ.size<=b) u all 3 (v3s done)/\done++allF n s w=allF 64 8 w/\512<=s+8*(n:Int)/\(∀x∈done,T3ok x)/\done.length+n=64) (λ_ s _=>1000-s.toNat) ⟨64,[],O,O,Ext.refl _ _,Own.nil _ _ _,rfl,O,by simp,by simp⟩ ?_;rintro(all:Sl) (s:Int) u ⟨n,done,hs1,hs2,eu,ho,hdone,hn,hok,hlen⟩;refine ifD (λW=>?_) λS=>?_
 ·obtain⟨n,rfl⟩:∃m,n=m+1:=⟨n-1,O⟩;refine WdV s w O O hw1 hw2 λv2 e2=>?_;refine app3 (ho.keep0 e2) (λb E=>by have:=eu.1;have:=e2.1;omega) O (mCls s w) λall1 v4 e4 h4=>?_;have e04:Ext0 σ v4:=Ext.newT (eu.trans e2) e4 λb E=>.inr E;refine WkY s w O O hw1 λd1 d2=>ar O O ⟨⟨n,done++[mCls s w],O,O,e04,h4,?_,O,λx B=>?_,by simp;omega⟩,O⟩
  ·rw[←hdone,zz]
   congr 1
   conv=>rhs;rw[allF,zB W]
   rfl
  ·rcases zR.1 B with h1|h1
   ·exact hok x h1
   ·rw[zV]at h1;subst h1;exact Wio s w O O
 ·have N:allF n s w=[]:=by
   cases n with
   | zero=>rfl
   | succ n=>rw[allF,zA S]
  rw[N,zy]at hdone;refine WdV 512 w O O hw1 hw2 λv6 e6=>?_;refine app3 (ho.keep0 e6) (λb E=>by have:=eu.1;have:=e6.1;omega) O (mCls 512 w) λe v8 e8 J=>?_;have e08:Ext0 σ v8:=Ext.newT (eu.trans e6) e8 λb E=>.inr E;rw[hdone]at J;have j:∀x∈allM w,T3ok x:=λx B=>by
   rcases zR.1 B with h1|h1
   ·rw[←hdone]at h1;exact hok x h1
   ·rw[zV]at h1;subst h1;exact Wio 512 w O O
  have hml:(allM w).length<=65:=by unfold allM;rw[←hdone];simp;omega
  have J:Own (λb=>σ.size<=b) v8 e 3 (v3s (allM w)):=J;generalize hall:allM w=l at J j hml;have hmk:WcL w=outM l l.length:=by unfold WcL;rw[hall]
  have hl2:e.len=l.length:=by have:=J.1;rw[Ug]at this;omega
  refine Ko (a:=.s) (bb:=bN) (λ(out:Sl) (z:Int) u=>∃i:Nat,z=(i:Int)/\i<=l.length/\Ext0 v8 u/\Own (λb=>v8.size<=b) u out 3 (v3s (outM l i))/\(outM l i).length<=i) (λ_ z _=>l.length-z.toNat) ⟨0,rfl,O,Ext.refl _ _,Own.nil _ _ _,by simp[outM]⟩ ?_;rintro(out:Sl) (z:Int) u ⟨i,rfl,hi,eu8,hout,hol⟩;refine ifD (λW=>?_) λS=>?_
  ·have hi':i<l.length:=by omega
   have B:l[i]?=some l[i]:=gGe hi';generalize l[i]=x at B;have C:=j x (zE B);have g:outM l (i+1)=outM l i++(if Wba l i then[x]else[]):=by
    unfold outM;rw[zAB,zDZ]
    congr 1
    by_cases hk:Wba l i=true
    ·simp[hk,B]
    ·simp[hk]
   have hA:∀m,Ext0 u m->Acts m e l:=λm d=>WfN (J.keep0 (eu8.trans d));refine WkQ (λr u'=>Ext0 u u'/\r=Wba l i) (λr u' ⟨p,X⟩=>?_) λJ3 H=>?_
   ·have P:=hout.keep0 p;cases hk:Wba l i with
    | true=>
     rw[hk]at X g;refine ifT X (UV (hA u' p) B ?_);refine app3 P (λb E=>by have:=eu8.1;have:=p.1;omega) O x λout1 v12 e12 h12=>?_;refine arN (m:=i+1) O O ⟨⟨i+1,rfl,O,Ext.newT (eu8.trans p) e12 λb E=>.inr E,?_,?_⟩,O⟩
     ·rw[g];exact h12
     ·rw[g];simp;omega
    | false=>
     rw[hk]at X g;refine ifF X (arN (m:=i+1) O O ⟨⟨i+1,rfl,O,eu8.trans p,?_,?_⟩,O⟩)
     ·rw[g];simpa using P
     ·rw[g];simp;omega
   ·refine⟨λm=>Ext0 u m,Ext.refl _ _,ar O O ?_⟩;refine iff_ (λG=>H _ _ ⟨Ext.refl _ _,?_⟩) λhnl=>?_
    ·have:i=l.length-1:=by simp only[zZ]at G;omega
     unfold Wba;rw[this];simp
    ·have hi2:i+1<l.length:=by simp only[zBC]at hnl;omega
     have hy:l[i+1]?=some l[i+1]:=gGe hi2;generalize l[i+1]=y at hy;have D:=j y (zE hy);have L:Wba l i=(x.2.1 != y.2.1||mObj x != mObj y):=by
      unfold Wba;rw[B,hy];have:(i==l.length-1)=false:=by simp only[zBC];omega
      rw[this];rfl
     have U:=λ(m:Hp) (d:Ext0 u m)=>(hA m d).2 i x.1 x.2.1 x.2.2 B;have hcy:=λ(m:Hp) (d:Ext0 u m)=>(hA m d).2 (i+1) y.1 y.2.1 y.2.2 hy;obtain⟨b,o,Z,_,_⟩:=U u (Ext.refl _ _);have Y:∀m,Ext0 u m->cell m ⟨b,o+i*3,none⟩=some (.int .i64 x.1)/\cell m ⟨b,o+i*3+1,none⟩=some (.int .i64 x.2.1)/\cell m ⟨b,o+i*3+2,none⟩=some (.int .i64 x.2.2):=λm d=>by
      obtain⟨b',o',A,_,h⟩:=U m d;rw[Z]at A;cases A;exact h
     have ry:∀m,Ext0 u m->cell m ⟨b,o+(i+1)*3,none⟩=some (.int .i64 y.1)/\cell m ⟨b,o+(i+1)*3+1,none⟩=some (.int .i64 y.2.1)/\cell m ⟨b,o+(i+1)*3+2,none⟩=some (.int .i64 y.2.2):=λm d=>by
      obtain⟨b',o',A,_,h⟩:=hcy m d;rw[Z]at A;cases A;exact h
     have M:∀{K:Addr->Prop},K ⟨b,o+i*3,none⟩->Ix e.a e.len (i:Int) 3 K:=λhK=>by
      rw[Z];exact ix O O (by rw[add_lit,iTn];exact hK)
     have V:∀{K:Addr->Prop},K ⟨b,o+(i+1)*3,none⟩->Ix e.a e.len ((i+1:Nat):Int) 3 K:=λhK=>by
      rw[Z];exact ix O O (by rw[add_lit,iTn];exact hK)
     refine M ⟨x.2.1,λm d=>by rw[add_lit];exact(Y m d).2.1,arN (m:=i+1) O O (V ⟨y.2.1,λm d=>by rw[add_lit];exact(ry m d).2.1,?_⟩)⟩;refine iff_ (λhp=>H _ _ ⟨Ext.refl _ _,by rw[L,hp];rfl⟩) λhp=>?_;refine M ⟨x.1,λm d=>by rw[add_lit];exact(Y m d).1,⟨x.2.1,λm d=>by rw[add_lit];exact(Y m d).2.1,⟨x.2.2,λm d=>by rw[add_lit];exact(Y m d).2.2,?_⟩⟩⟩;refine arN (m:=i+1) O O (V ⟨y.1,λm d=>by rw[add_lit];exact(ry m d).1,⟨y.2.1,λm d=>by rw[add_lit];exact(ry m d).2.1,⟨y.2.2,λm d=>by rw[add_lit];exact(ry m d).2.2,?_⟩⟩⟩);refine Wjw x C.1 C.2.1 C.2.2.1 C.2.2.2 λv13 F=>⟨F,Wjw y D.1 D.2.1 D.2.2.1 D.2.2.2 λv14 Q=>⟨F.trans Q,H _ _ ⟨F.trans Q,by rw[L,hp];rfl⟩⟩⟩
  ·have hil:i=l.length:=by omega
   subst hil;refine hR out u (e08.trans eu8) ?_;rw[hmk];exact WfN hout
theorem HP:∀w:Nat,2<=w->w<=16->Qi (WcL (w:Int))=true:=by
 have h:((List.range 17).all λw=>decide (w<2)||Qi (WcL (w:Int)))=true:=by decide +kernel
 intro w h1 h2;have:=zAA.1 h w (zU.2 O);simp only[zBL,zT]at this;exact this.resolve_left O
end Go.Ar
namespace Go.Proofs
open Go.Shelf
def Tryz.sortFL_ren:Go.Shelf.Ren:=⟨fun|6=>261|15=>129|14=>284|28=>167|29=>168|20=>303|21=>304|22=>305|23=>306|24=>307|25=>308|26=>309|27=>310|46=>316|47=>206|48=>207|49=>317|50=>318|57=>320|n=>n,fun|22=>124|24=>130|25=>346|3=>3|39=>199|0=>0|53=>255|55=>257|4=>4|46=>248|45=>247|50=>252|5=>5|9=>9|66=>299|70=>105|76=>335|77=>336|n=>n,fun|n=>n⟩
theorem Tryz.sortFL:Go.Proofs.SlLaysF0.n6 Tryz.prog Tryz.sortFL_ren:={
 mixed:=by kernel_rfl
 f6:=⟨Tryz.f261.name,by decide,Tryz.func261.trans (congrArg some (by kernel_rfl))⟩
 f14:=⟨Tryz.f284.name,by decide,Tryz.func284.trans (congrArg some (by kernel_rfl))⟩
 f15:=Tryz.func129.trans (congrArg some (by kernel_rfl))
 f20:=⟨Tryz.f303.name,by decide,Tryz.func303.trans (congrArg some (by kernel_rfl))⟩
 f21:=⟨Tryz.f304.name,by decide,Tryz.func304.trans (congrArg some (by kernel_rfl))⟩
 f22:=⟨Tryz.f305.name,by decide,Tryz.func305.trans (congrArg some (by kernel_rfl))⟩
 f23:=⟨Tryz.f306.name,by decide,Tryz.func306.trans (congrArg some (by kernel_rfl))⟩
 f24:=⟨Tryz.f307.name,by decide,Tryz.func307.trans (congrArg some (by kernel_rfl))⟩
 f25:=⟨Tryz.f308.name,by decide,Tryz.func308.trans (congrArg some (by kernel_rfl))⟩
 f26:=⟨Tryz.f309.name,by decide,Tryz.func309.trans (congrArg some (by kernel_rfl))⟩
 f27:=⟨Tryz.f310.name,by decide,Tryz.func310.trans (congrArg some (by kernel_rfl))⟩
 f28:=Tryz.func167.trans (congrArg some (by kernel_rfl))
 f29:=Tryz.func168.trans (congrArg some (by kernel_rfl))
 f46:=⟨Tryz.f316.name,by decide,Tryz.func316.trans (congrArg some (by kernel_rfl))⟩
 f47:=Tryz.func206.trans (congrArg some (by kernel_rfl))
 f48:=Tryz.func207.trans (congrArg some (by kernel_rfl))
 f49:=⟨Tryz.f317.name,by decide,Tryz.func317.trans (congrArg some (by kernel_rfl))⟩
 f50:=⟨Tryz.f318.name,by decide,Tryz.func318.trans (congrArg some (by kernel_rfl))⟩
 f57:=⟨Tryz.f320.name,by decide,Tryz.func320.trans (congrArg some (by kernel_rfl))⟩
 t0:=Tryz.underlying0
 a0:=Tryz.isAgg0
 z0:=Tryz.sizeOf0
 v0:=Tryz.zeroValue0
 t3:=Tryz.underlying3
 a3:=Tryz.isAgg3
 z3:=Tryz.sizeOf3
 v3:=Tryz.zeroValue3
 t4:=Tryz.underlying4
 a4:=Tryz.isAgg4
 z4:=Tryz.sizeOf4
 v4:=Tryz.zeroValue4
 t5:=Tryz.underlying5
 a5:=Tryz.isAgg5
 z5:=Tryz.sizeOf5
 v5:=Tryz.zeroValue5
 t9:=Tryz.underlying9
 a9:=Tryz.isAgg9
 z9:=Tryz.sizeOf9
 v9:=Tryz.zeroValue9
 t22:=Tryz.underlying124
 a22:=Tryz.isAgg124
 z22:=Tryz.sizeOf124
 v22:=Tryz.zeroValue124
 t25:=Tryz.underlying346
 a25:=Tryz.isAgg346
 z25:=Tryz.sizeOf346
 v25:=Tryz.zeroValue346
 t39:=Tryz.underlying199
 a39:=Tryz.isAgg199
 z39:=Tryz.sizeOf199
 v39:=Tryz.zeroValue199
 t45:=Tryz.underlying247
 a45:=Tryz.isAgg247
 z45:=Tryz.sizeOf247
 v45:=Tryz.zeroValue247
 t46:=Tryz.underlying248
 a46:=Tryz.isAgg248
 z46:=Tryz.sizeOf248
 v46:=Tryz.zeroValue248
 t50:=Tryz.underlying252
 a50:=Tryz.isAgg252
 z50:=Tryz.sizeOf252
 v50:=Tryz.zeroValue252
 t53:=Tryz.underlying255
 a53:=Tryz.isAgg255
 z53:=Tryz.sizeOf255
 v53:=Tryz.zeroValue255
 t55:=Tryz.underlying257
 a55:=Tryz.isAgg257
 z55:=Tryz.sizeOf257
 v55:=Tryz.zeroValue257
 t66:=Tryz.underlying299
 a66:=Tryz.isAgg299
 z66:=Tryz.sizeOf299
 v66:=Tryz.zeroValue299
 t70:=Tryz.underlying105
 a70:=Tryz.isAgg105
 z70:=Tryz.sizeOf105
 v70:=Tryz.zeroValue105
 t76:=Tryz.underlying335
 a76:=Tryz.isAgg335
 z76:=Tryz.sizeOf335
 v76:=Tryz.zeroValue335
 t77:=Tryz.underlying336
 a77:=Tryz.isAgg336
 z77:=Tryz.sizeOf336
 v77:=Tryz.zeroValue336}
end Go.Proofs
namespace Go.Ar
open Go Go.Vc Go.Proofs Go.RowKit Go.Sort Go.Shelf Go.Lib
abbrev BtK:=Fin 64×Sl
instance:Inhabited BtK:=⟨(0,⟨none,0,0⟩)⟩
def encB (x:BtK):List Value:=[.int .i64 (x.1.val:Int),.slice x.2.a x.2.len x.2.cap]
def cfB (x y:BtK):Int:=(x.1.val:Int)-(y.1.val:Int)
theorem cmpB (x y:BtK)(W:World):Calls Tryz.prog 262 #[.agg #[.int .i64 (x.1.val:Int),.slice x.2.a x.2.len x.2.cap],.agg #[.int .i64 (y.1.val:Int),.slice y.2.a y.2.len y.2.cap]] W λe w'=>e=.returned (.int .i64 (cfB x y))/\∃q os',w'=grow (W.drewN q) os':=by
 have d:IntKind.i64.wrap ((x.1.val:Int)-(y.1.val:Int))=cfB x y:=by
  have b:=x.1.isLt;have g:=y.1.isLt;unfold cfB;exact UG O O
 go_enter Tryz.func262,Tryz.ntmps262
 go_wp2
 go_ret
 exact⟨rfl,0,_,by rw[alloc_eq_grow,alloc_eq_grow,grow_grow];rfl⟩
theorem swoB:SWO (ltOf cfB) where
 irrefl x:=by simp[ltOf,cfB]
 trans x y z a h2:=by
  have a:=zBZ a;have h2:=zBZ h2;unfold cfB at a h2;exact zW (by unfold cfB;omega)
 ntrans x y z a h2:=by
  have a:=zCR a;have h2:=zCR h2;unfold cfB at a h2;exact zd (by unfold cfB;omega)
def unK (x:BtK):Nat×Sl:=(x.1.val,x.2)
theorem flB (l:List BtK)(j:Nat)(hj:j<l.length*2):(btsV (l.map unK))[j]?=some (flatK encB 2 l.toArray)[j]! := by
 rw[get_flatK _ _ _ _ (by simpa using hj)];have a:j/2<l.length:=by omega
 have e:l.toArray[j/2]! = l[j/2]:=by rw[getElem!_pos _ _ (by simpa using a)];simp
 have b:(l.map unK)[j/2]?=some (unK l[j/2]):=by simp[a]
 have:=Wll b (d:=j%2) O;rw[show 2*(j/2)+j%2=j by omega]at this;rw[this,e];have hd:j%2=0\/j%2=1:=by omega
 rcases hd with h|h<;>rw[h]<;>rfl
theorem Wm6:HY:=by
 intro σ F s xs hrow hk hlen R hR;rintro w rfl;have hsl:s.len=xs.length:=by have:=hrow.1;rw[KC]at this;omega
 rcases hrow.2 with⟨h0,hc0⟩|⟨b,cs,hF,ha,hb,hle,hcl,ht⟩
 ·have M:xs=[]:=zFT.1 O;have:=AnyF.slices_SortFunc_none Tryz.sortFL s.a s.cap (.func (.func 262) #[] #[]) w;show Calls _ _ #[.slice s.a s.len s.cap,.func (.func 262) #[] #[]] w _;rw[h0];refine this.mono ?_;rintro e V ⟨rfl,rfl⟩;subst M;exact⟨.refl _,[],rfl,hR [] _ (.refl _) List.Pairwise.nil (Ext.refl _ _) hrow⟩
 ·have N:∀x∈xs,x.1<64:=hk
  let toK:Nat×Sl->BtK:=λx=>(Fin.ofNat 64 x.1,x.2)
  have u:(xs.map toK).map unK=xs:=by
   rw[zAC]
   conv=>rhs;rw[←zEK xs]
   apply zAH;intro x hx;simp only[Function.comp,toK,unK,Fin.ofNat,id];rw[zDV (N x hx)]
  have G:(xs.map toK).length=xs.length:=by simp
  generalize xs.map toK=l at u G;have A:=hb.lt;have hH:HoldsK encB 2 w b 0 l.toArray:=by
   intro j hj;simp only[size_flatK,zFV]at hj;have X:Vc.cell w.heap ⟨b,0+j,none⟩=some (flatK encB 2 l.toArray)[j]! := by
    rw[hb.cell,zG,←flB l j hj,u];rw[←ht,zX,zB (by rw[KC];omega)]
   exact⟨X,hb.frz⟩
  have Y:∀args w,(callFunc 262 args).run Tryz.prog w=.ok (.enter 262 args) w:=enters_of Tryz.func262 (by kernel_rfl) rfl;have B:∀w,(isAgg (Tryz.sortFL_ren.t 24)).run Tryz.prog w=.ok true w:=λw=>by
   have h:=KF (P:=Tryz.prog) (t:=Tryz.sortFL_ren.t 24) (d:=(Tryz.prog.underlying (Tryz.sortFL_ren.t 24)).getD .bool) (by kernel_rfl) w
   rwa [show Uy ((Tryz.prog.underlying (Tryz.sortFL_ren.t 24)).getD .bool)=true by kernel_rfl]at h
  have J:∀w,(Go.sizeOf (Tryz.sortFL_ren.t 24)).run Tryz.prog w=.ok 2 w:=λw=>by
   have h:=QO (P:=Tryz.prog) (t:=Tryz.sortFL_ren.t 24) (by kernel_rfl) w
   rwa [show Tryz.prog.cellsOf (Tryz.sortFL_ren.t 24)=2 by kernel_rfl]at h
  have C:=AnyQ.slices_SortFunc Tryz.sortFL 2 B J encB (λ_=>rfl) (λx v S=>by simp only[encB,zQ,List.not_mem_nil,or_false]at S;rcases S with rfl|rfl<;>rfl) cfB swoB 262 #[] b 0 s.cap l.toArray w Y (λ_ _ _ _ x y=>cmpB x y _) hH A (by simp only[zFV];omega)
  show Calls _ _ #[.slice s.a s.len s.cap,.func (.func 262) #[] #[]] w _;rw[ha,show s.len=l.toArray.size by simp only[zFV];omega];refine C.mono ?_;rintro e V ⟨rfl,d',n,os,Q,E,rfl⟩;have g:d'.size=l.length:=by simpa using Q.1
  have r:d'.toList.Perm l:=by
   have H:=Q.2.2;rw[show l.toArray.size=d'.size by simp[g]]at H;have W:(d'.extract 0 d'.size)=d':=by simp
   have U:(l.toArray.extract 0 d'.size)=l.toArray:=by rw[g];simp
   rw[W,U]at H;simpa using H
  obtain⟨ty,K⟩:=hb;have m:(sortWorldK encB 2 w b 0 n d' os).heap=(w.heap.modify b (onCells (putCells id 0 (flatK encB 2 d'))))++os:=rfl;have p:(w.heap.modify b (onCells (putCells id 0 (flatK encB 2 d')))).size=w.heap.size:=by simp
  refine⟨⟨rfl,rfl,rfl,by rw[m,Array.size_append,p];omega⟩,[],rfl,?_⟩;rw[m];have z:Ext F w.heap ((w.heap.modify b (onCells (putCells id 0 (flatK encB 2 d'))))++os):=by
   refine⟨by rw[Array.size_append,p];omega,λq hq Z=>?_⟩;rw[zGG (by rw[p];exact hq),zFK,zA λ(e:b=q)=>Z (by rw[←e];exact hF)]
  refine hR (d'.toList.map unK) _ ?_ ?_ z ⟨?_,.inr ⟨b,(putCells id 0 (flatK encB 2 d') cs.toArray).toList,hF,ha,⟨ty,?_⟩,hle,?_,?_⟩⟩
  ·rw[←u];exact r.map _
  ·rw[zCN];rw[zAE];intro i j hi hj hij;have D:=E i j O hij (by simp only[zEN]at hj;simp only[zFV];omega);rw[getElem!_pos d' i (by simpa using hi),getElem!_pos d' j (by simpa using hj)]at D;have D:=zCR D;unfold cfB at D;simp only[unK,Array.getElem_toList];omega
  ·rw[KC,za,zEN,g];omega
  ·rw[zGG (by rw[p];exact A),zFK,zB rfl,K];simp[onCells]
  ·simp[putCells,hcl]
  ·rw[KC,za,zEN,g];apply zu;intro j;rw[zX];by_cases hj:j<l.length*2
   ·rw[zB hj,flB d'.toList j (by simpa[g]using hj)];have L:j<cs.length:=by
     have:l.length*2<=s.cap*2:=zAJ _ O;omega
    simp only[putCells,zFB,Array.getElem?_mapIdx,List.getElem?_toArray,gGe L,zg];rw[zB ⟨O,by rw[size_flatK,g];omega⟩];simp
   ·rw[zA hj,zY (by rw[KC,za,zEN,g];omega)]
end Go.Ar
namespace Go.Proofs
open Go.Vc
set_option maxRecDepth 100000
def XJ.h:Hn:=.q .o1 (.q .o4 .l)
def XJ.v (a:Hp)(b:Option Addr->Hp->Prop):Prop:=Wu.c 8 64 1 1 1024 2 a λc d=>b c d
theorem XJ.o {a b}(c:XJ.v a b):XJ.c a b:=Wa Tryz.func29 (x:=XJ.h) (R0 c)
def Xz.h:Hn:=.q .o1 (.q .o5 .l)
def Xz.v (a:Sl)(b:Int)(c:Hp)(d:aO):Prop:=d (decide (((a.len:Nat):Int)>b)) c
theorem Xz.o {a b c d}(e:Xz.v a b c d):Xz.c a b c d:=Wa Tryz.func34 (x:=Xz.h) (R0 e)
def Wu.h:Hn:=.q .o2 (.q .o8 (.q .o9 (.q (.q .o2 .aK) .aL)))
def Wu.v (a b c d e f:Int)(g:Hp)(h:Option Addr->Hp->Prop):Prop:=aV #[.I a,.I b,.I c,.I d,.I e,.I f] 65 g λi j=>aQ i 0 j λk=>WU.c k j λl m n=>bM ((i.add 1).add 0) n λo=>bM ((i.add 1).add 1) n λp=>bM ((i.add 1).add 2) n λq=>bM ((i.add 1).add 3) n λr=>bM ((i.add 1).add 4) n λs=>Ku.c l o p q r s n λt u v=>If (u != 0) (h none v) (h t v)
theorem Wu.o {a b c d e f g h}(i:Wu.v a b c d e f g h):Wu.c a b c d e f g h:=Wa Tryz.func63 (x:=Wu.h) (R0 i)
def WQ.h:Hn:=.q .o2 (.q .o5 .l)
def WQ.v (a b c d e f:Int)(g:Hp)(h:aO):Prop:=aV #[.I a,.I b,.I c,.I d,.I e,.I f] 65 g λi j=>bM ((i.add 1).add 0) j λk=>h (decide (k>128)) j
theorem WQ.o {a b c d e f g h}(i:WQ.v a b c d e f g h):WQ.c a b c d e f g h:=Wa Tryz.func64 (x:=WQ.h) (R0 i)
def Yr.h:Hn:=.q .o2 (.q (.q (.reg (.seq [.op,.op,.op,.op,.grd false 3 (RI.ops 3)])) (.c (.q .o3 .l) .l)) (.q (.oq 12) .l))
def Yr.v (a:Sl)(b c d e f g h:Int)(i:ByteArray)(j:Hp)(k:aN):Prop:=aV #[.I b,.I c,.I d,.I e,.I f,.I g,.I h,.string i] 87 j λl m=>aQ l 4 m λn=>JnB (λo p=>If o (aQ l 5 p λq=>k q p) (aQ l 4 p λr=>Nz ((a.len:Nat):Int) <| Ix a.a a.len (r.tmod ((a.len:Nat):Int)) 1 λs=>bM s p λt=>aQ l 5 p λu=>bL (t+u) λv=>k v p)) λw=>If (n<0) (w true m) (w (((a.len:Nat):Int)==0) m)
theorem Yr.o {a b c d e f g h i j k}(l:Yr.v a b c d e f g h i j k):Yr.c a b c d e f g h i j k:=Wa Tryz.func69 (x:=Yr.h) (R0 l)
def Y7.h:Hn:=.q .o4 (.q .o4 (.q (.q .o2 (.k (.q .o2 (.c (.q (.o 13) (.q .o6 .l)) (.q .o2 (.c (.q .o8 .l) (.q .o2 (.c (.q .o7 .l) (.q .o2 (.c (.q .o8 .l) (.q .o2 (.c (.q .o8 (.q .o5 .l)) (.q .o2 (.c (.q (.o 12) .l) (.q .o2 (.c (.q .o9 .l) (.q .o2 (.c (.q (.o 12) (.q (.q (.reg (.seq [.op,.op,.op,.grd false 2 [.op,.op]])) (.c (.q .o4 .l) .l)) (.q (.oq 10) .l))) (.q .o2 (.c (.q .o9 (.q .o5 .l)) (.q .o2 (.c (.q .o5 .l) (.q .o2 (.c .o2 .l)))))))))))))))))))))))) (.q .o3 .l)))
def Y7.v (a:R2)(b:Sl)(c d e f g h i:Int)(j:ByteArray)(k:Hp)(l:Int->Int->Int->Hp->Prop):Prop:=aV #[.I c,.I d,.I e,.I f,.I g,.I h,.I i,.string j] 87 k λm n=>aQ m 0 n λo=>aQ m 1 n λp=>aQ m 2 n λq=>aQ m 3 n λr=>aQ m 4 n λs=>aQ m 5 n λt=>aQ m 6 n λu=>bC m 7 n λv=>Yr.c b o p q r s t u v n λw x=>aQ m 0 x λy=>If (y==0) (aQ m 1 x λz=>aQ m 2 x λaa=>aQ m 3 x λab=>Yj.c a z aa ab x λac ad ae=>l ac ad ac ae) (If (y==1) (aQ m 1 x λaf=>Zq.c a af w x λag ah=>l 0 ag 0 ah) (If (y==2) (aQ m 1 x λai=>Zo.c a ai x λaj ak=>l 0 aj 0 ak) (If (y==3) (aQ m 6 x λal=>Zl.c a w al x λam an=>l 0 am 0 an) (If (y==4) (Wbe.c a w x λao ap aq=>l ao ap 0 aq) (If (y==5) (aQ m 1 x λar=>aQ m 2 x λau=>aQ m 3 x λav=>Yi.c a ar 0 au av 0 x λaw ax=>l 0 aw 0 ax) (If (y==6) (aQ m 1 x λay=>Yi.c a ay 1 0 0 w x λaz a0=>l 0 az 0 a0) (If (y==7) (aQ m 1 x λa1=>Y9.c a a1 x λa2 a3 a4 a5 a6=>aV #[.I 0,.I 0] 156 a6 λa7 a8=>aR a7 0 (.I a3) a8 λa9=>aR a7 1 (.I a4) a9 λba=>JnB (λbb bc=>If bb (l 0 a5 0 bc) (aQ a7 0 bc λbd=>aQ a7 1 bc λbe=>bL (100+be) λbf=>aQ a7 0 bc λbg=>l bd bf bg bc)) λbh=>If (a5 != 0) (bh true ba) (bh (!a2) ba)) (If (y==8) (aQ m 2 x λbi=>
 Yx.c a bi x λbj bk bl=>l bj bk 0 bl) (If (y==9) (Zy.c a x λbm bn=>l bm 0 0 bn) (If (y==10) (ZD.c a x λbo=>l 0 0 0 bo) (l 0 0 0 x)))))))))))
theorem Y7.o {a b c d e f g h i j k l}(m:Y7.v a b c d e f g h i j k l):Y7.c a b c d e f g h i j k l:=Wa Tryz.func70 (x:=Y7.h) (R0 m)
end Go.Proofs
namespace Go.Ar
open Go Go.Vc Go.Proofs
variable {σ w w':Hp}{F P Q:Rg}{L:LayH}{H H':Hw}{held:List Pc}{s0:Sp}{t n:Nat}{g:Th}
structure Deed where
 kd:Int
 th:Int
 a:Int
 b:Int
 of:Int
 pl:Int
 va:Int
 s:ByteArray
def Wbg (d:Deed):List Value:=[.int .i64 d.kd,.int .i64 d.th,.int .i64 d.a,.int .i64 d.b,.int .i64 d.of,.int .i64 d.pl,.int .i64 d.va,.string d.s]
def I64 (x:Int):Prop:=-9223372036854775808<=x/\x<=9223372036854775807
structure DeedI (d:Deed):Prop where
 a:I64 d.a
 b:I64 d.b
 pl:I64 d.pl
 va:I64 d.va
structure Deeds (σ:Hp) (sl:Sl) (ds:List Deed):Prop where
 len:sl.len=ds.length
 at_:∀(i:Nat) (d:Deed),ds[i]?=some d->∃b o,sl.a=some ⟨b,o,none⟩/\b<σ.size/\∀(j:Nat) v,(Wbg d)[j]?=some v->cell σ ⟨b,o+i*8+j,none⟩=some v
 i:∀d∈ds,DeedI d
 big:ds.length<=9223372036854775807
theorem Deeds.rd {sl:Sl}{ds:List Deed}(h:Deeds σ sl ds)(e:Ext0 σ w){i:Nat}{d:Deed}(hx:ds[i]?=some d){K:Addr->Prop}(hK:∀b o,(∀w',Ext0 σ w'->∀(j:Nat) v,(Wbg d)[j]?=some v->cell w' ⟨b,o+j,none⟩=some v)->K ⟨b,o,none⟩):Ix sl.a sl.len (i:Int) 8 K:=by
 obtain⟨b,o,p,s,m⟩:=h.at_ i d hx;have x:=(gSi.1 hx).1;have g:=h.len;rw[p];refine ix O O ?_;rw[add_lit,iTn];exact hK b _ λw' u j v r=>by rw[QR u s id];exact m j v r
theorem ldT0 {b o i:Nat}{h:Hp}{x:ByteArray}{K:ByteArray->Prop}(hc:cell h ⟨b,o+i,none⟩=some (.string x))(hK:K x):LdT (Addr.add ⟨b,o,none⟩ i) h K:=⟨x,by rw[add_lit];exact hc,hK⟩
theorem _root_.Go.Vc.Blk.rT {b o i:Nat}{cs:List Value}(hb:Blk σ b cs){x:ByteArray}{K:ByteArray->Prop}(hc:cs[o+i]?=some (.string x))(hK:K x):LdT (Addr.add ⟨b,o,none⟩ i) σ K:=⟨x,by rw[add_lit,hb.cell];exact hc,hK⟩
def atV (ad:List Int)(d:Deed):Int:=if d.of<0\/ad=[]then d.pl else IntKind.i64.wrap (ad.getD (d.of.toNat%ad.length) 0+d.pl)
theorem Wok {ad:List Int}{d:Deed}(h:DeedI d):I64 (atV ad d):=by
 unfold atV;split
 ·exact h.pl
 ·exact Wj1 _
theorem Woj {addrs:Sl}{ad:List Int}(hs:SlR addrs 1 (Wv ad) σ F)(d:Deed){R:aN}(hR:∀σ',Ext0 σ σ'->R (atV ad d) σ'):Yr.c addrs d.kd d.th d.a d.b d.of d.pl d.va d.s σ R:=by
 refine Yr.o ?_;unfold Yr.v;have z:addrs.len=ad.length:=by have:=hs.1;simp[Wv]at this;omega
 refine nw (cs:=Wbg d) λv D e j=>j.rI rfl (UP (λr w=>w=v/\r=decide (d.of<0\/ad=[])) (λr w ⟨C,x⟩=>?_) λJ A=>ifD (λm=>A _ _ ⟨rfl,by rw[zW (.inl m)]⟩) λm=>A _ _ ⟨rfl,?_⟩)
 ·subst C;have g:=hR w e;by_cases hc:d.of<0\/ad=[]
  ·refine ifT (by rw[x];exact zW hc) (j.rI rfl ?_);unfold atV at g;rw[zB hc]at g;exact g
  ·have i:0<ad.length:=zCG.2 λh=>hc (.inr h);refine ifF (by rw[x];exact zd hc) (j.rI rfl (nz O ?_));have y:0<=d.of:=by omega
   have B:d.of.tmod (addrs.len:Int)=((d.of.toNat%ad.length:Nat):Int):=by
    rw[Q7 y,z,Int.natCast_emod,Int.toNat_of_nonneg y]
   rw[B];have p:d.of.toNat%ad.length<ad.length:=zDP _ i;have u:ad[d.of.toNat%ad.length]?=some ad[d.of.toNat%ad.length]:=gGe p;refine(SlR.loc _ _ _ |>.keep0 (aH.cut hs) e).ixI u (j.rI rfl (arW ?_));unfold atV at g;rw[zA hc,zM,u]at g;exact g
 ·rw[z];rw[zBD];simp only[zZ,zT];constructor
  ·intro h;exact .inr (zFT.1 O)
  ·rintro(h|h)
   ·exact(m h).elim
   ·rw[h];rfl
theorem Wiu {l:Sl}{most:Int}{R:aO}(hR:R (decide ((l.len:Int)>most)) σ):Xz.c l most σ R:=by
 refine Xz.o ?_;unfold Xz.v;exact hR
theorem WmT {xs:List (Int×Int×Int)}(h:Qi xs=true):(xs.map ZV).map clsT=xs:=by
 rw[zAC]
 conv=>rhs;rw[←zEK xs]
 apply zAH;intro t ht;obtain⟨i,a⟩:=zN ht;have:=((Qq xs).1 h).2.2.1 i t a;obtain⟨c,_,e,b,d,g⟩:=GX this;simp only[Function.comp,id];rw[show ZV t=c from e];unfold clsT;rw[←b,←d,←g]
theorem Wn1 {xs:List (Int×Int×Int)}(h:Qi xs=true):(xs.map ZV).length<=40/\∀c∈xs.map ZV,c.ok:=by
 refine⟨by have:=((Qq xs).1 h).2.1;simpa using this,λc d=>?_⟩;obtain⟨t,g,rfl⟩:=zC.1 d;obtain⟨i,b⟩:=zN g;have:=((Qq xs).1 h).2.2.1 i t b;obtain⟨c,a,e,_⟩:=GX this;rw[show ZV t=c from e];exact a
structure NewH (H:Hw) (pages:Int):Prop where
 hi:HI H [] (Vp H.cf.pages)
 cf:CfOk H
 pg:(H.cf.pages:Int)=pages
 live:H.live=[]
 ph:∀g∈H.ths,g.ph=none
theorem Wi1 {xs:List (Int×Int×Int)}{p a t b r:Int}(h:Qi xs=true)(hc:Wc4 p a t b r=true):NewH (Ud (xs.map ZV) ⟨p.toNat,a.toNat,t.toNat,b.toNat,r.toNat⟩) p:=by
 obtain⟨⟨y,s,x⟩,⟨u,w⟩,⟨m,j⟩,_⟩:=(WdW p a t b r).1 hc;obtain⟨e,d⟩:=Wn1 h;refine⟨Wox (cf:=⟨p.toNat,a.toNat,t.toNat,b.toNat,r.toNat⟩) aC aC aC aC e d,⟨by simp only[Ud];omega,by simp[Ud],?_⟩,by simp only[Ud];omega,rfl,λg i=>by rw[zGQ i]⟩;show Qi ((xs.map ZV).map clsT)=true;rw[WmT h];exact h
theorem Woi (g:Gl σ)(gd:Gd σ)(b b1 b2 b3 b4 b5:Int){R:Option Addr->Hp->Prop}(h0:∀σ',Ext0 σ σ'->R none σ')
 (h1:∀σ' L N H,Ext0 σ σ'->σ.size<=N->N<=σ'.size->HH σ' (λb=>N<=b) L H->NewH H b1->R (some ⟨L.p,0,none⟩) σ'):Wu.c b b1 b2 b3 b4 b5 σ R:=by
 refine Wu.o ?_;unfold Wu.v;refine nw (cs:=[.int .i64 b,.int .i64 b1,.int .i64 b2,.int .i64 b3,.int .i64 b4,.int .i64 b5]) λv G e j=>j.rI rfl ?_;by_cases hw:2<=b/\b<=16
 ·refine Whk b hw.1 hw.2 λs F B A=>?_;have a:=B.blk j id;have d:=e.trans B;have r:Qi (WcL b)=true:=by
   have:=HP b.toNat O O;rw[show((b.toNat:Nat):Int)=b by omega]at this;exact this
  refine a.rI2 rfl (a.rI2 rfl (a.rI2 rfl (a.rI2 rfl (a.rI2 rfl ?_))));refine We4 A (g.keep0 d) (gd.keep0 d) b1 b2 b3 b4 b5 (λw=>by rw[r]at w;cases w) (λ_ C u m=>?_) λ_ C u L m D=>?_
  ·exact ifT rfl (h0 u (d.trans m))
  ·exact ifF rfl (h1 u L F.size _ (d.trans m) d.1 m.1 D (Wi1 r C))
 ·refine Wkv b O (j.rI2 rfl (j.rI2 rfl (j.rI2 rfl (j.rI2 rfl (j.rI2 rfl ?_)))));have A:Acts v ⟨none,0,0⟩ []:=⟨rfl,λi x y z E=>by simp at E⟩;refine We4 A (g.keep0 e) (gd.keep0 e) b1 b2 b3 b4 b5 (λ_ u m=>ifT rfl (h0 u (e.trans m))) (λr=>?_) λr=>?_
  ·exact absurd r aB
  ·exact absurd r aB
def Safe (H:Hw)(d:Deed)(x:Int)(e:Int×Bk):Prop:=(∀j,phAt H j≠some (.find e.1))/\¬((d.kd=3\/d.kd=1\/d.kd=6)/\e.1<=x/\x<e.1+e.2.2.1)
structure DoE (H:Hw) (d:Deed) (x:Int) (H':Hw):Prop where
 hi:∃held s0,HI H' held s0
 kp:Z9 H' H
 fx:∀e∈H.live,Safe H d x e->e∈H'.live/\(∀w:Nat,e.1<=((8*w:Nat):Int)->((8*w:Nat):Int)<e.1+e.2.2.1->H'.sp.wd w=H.sp.wd w)/\∀j,phAt H' j≠some (.find e.1)
theorem DoE.op (h:HI H held s0){d:Deed}{x:Int}(o:OpOk H H')(hl:∀e∈H.live,Safe H d x e->e∈H'.live):DoE H d x H':=
 ⟨o.hi,o.kp,λe a b=>⟨hl e a b,h.kl o.ks e a,λj=>by rw[o.ph];exact b.1 j⟩⟩
theorem DoE.ar {d:Deed}{x:Int}(o:ArOk H H'):DoE H d x H':=
 ⟨o.hi,o.kp,λe a b=>⟨by rw[o.live];exact a,o.kl e a,λj=>by unfold phAt;rw[o.ths];exact b.1 j⟩⟩
theorem HI.size8 (h:HI H held s0){e:Int×Bk}(he:e∈H.live):8<=e.2.2.1/\0<=e.1/\e.1%8=0/\e.2.2.1%8=0/\e.1+e.2.2.1<=270000:=by
 obtain⟨_,p,g,C,z,K,D,_⟩:=h.lv e he;have G:=h.wi'.size_pos g;have F:=h.wi'.addr_lt g;obtain⟨A,y,hd⟩:=h.wi'.hf p g;have B:p.addr%8=0:=by
  rcases hd with⟨_,_,r,hr,c2,c3⟩|⟨j,c,c1,c2,c3,c4,_⟩
  ·omega
  ·obtain⟨a,w,b,u⟩:=c4;have:a=c:=Option.some.inj (b.1.symm.trans c2);subst this;have m:=(h.wi'.ga _ A y).cen j a w b;obtain⟨l,s,i,E,J,e,_⟩:=(Ua m).1 u;have d:=m.ok;unfold Cls.ok at d;unfold at_ at e;have x:a.size=8*(a.size/8):=by omega
   have:i*a.size=8*(i*(a.size/8)):=by rw[Nat.mul_left_comm,←x]
   omega
 omega
theorem DoE.free (h:HI H held s0){d:Deed}{x thread e:Int}(hd:d.kd=1)(o:OpOk H H')(hf:FreE H thread x H' e):DoE H d x H':=by
 refine DoE.op h o λj a g=>?_;have i:=h.size8 a;rcases hf with⟨_,h2,_⟩|⟨_,_,_,h4⟩|⟨_,b,_,_,h4⟩
 ·rw[h2];exact a
 ·rw[h4];exact a
 ·rw[h4];refine Wcm.2 ⟨a,λm=>g.2 ⟨.inr (.inl hd),O,O⟩⟩
end Go.Ar
namespace Go.Ar
open Go Go.Vc Go.Proofs
variable {σ w w':Hp}{F P Q X:Rg}{L:LayH}{H H':Hw}{held:List Pc}{s0:Sp}{t n:Nat}{g:Th}
structure PlayOk (σ0 σ:Hp) (L:LayH) (H:Hw) (held:List Pc) (s0:Sp) (P Q:Rg) (addrs:Sl) (ad:List Int):Prop where
 e:Ext0 σ0 σ
 h:HH σ P L H
 hi:HI H held s0
 cf:CfOk H
 pg:H.cf.pages<=128
 pP:∀b,P b->σ0.size<=b/\b<σ.size
 pQ:∀b,Q b->σ0.size<=b/\b<σ.size/\¬P b
 row:RowR addrs 1 (Wv ad) σ Q
 al:ad.length<=60
 g0:Off (λb=>σ0.size<=b)/\¬σ0.size<=1
variable {σ0:Hp}{addrs:Sl}{ad:List Int}
theorem PlayOk.out (p:PlayOk σ0 σ L H held s0 P Q addrs ad){T:Rg}(e:Ext T σ w)(hT:∀b,b<σ.size->T b->¬P b/\¬Q b/\σ0.size<=b):PlayOk σ0 w L H held s0 P Q addrs ad:=by
 have r:=e.1;have g:Ext (λb=>T b/\b<σ.size) σ w:=⟨e.1,λb a j=>e.2 b a λd=>j ⟨d,a⟩⟩;refine⟨Ext.newT p.e g λb a=>.inr (hT b a.2 a.1).2.2,p.h.keep g (λb a m d=>(hT b a d.1).1 m) (λb a=>?_) (λa=>?_),p.hi,p.cf,p.pg,λb a=>⟨(p.pP b a).1,by have:=(p.pP b a).2;omega⟩,λb a=>⟨(p.pQ b a).1,by have:=(p.pQ b a).2.1;omega,(p.pQ b a).2.2⟩,aI.keep p.row g λb a i d=>(hT b a d.1).2.1 i,p.al,p.g0⟩
 ·exact p.g0.1 b (hT b a.2 a.1).2.2
 ·exact p.g0.2 (hT _ a.2 a.1).2.2
theorem WoZ (hr:RowR addrs 1 (Wv ad) σ Q)(hl:ad.length<=1000000)(x:Int){e t:Nat}{K:Sl->Hp->Prop}(hK:∀s' w,Ext Q σ w->RowR s' 1 (Wv (ad++[x])) w (λb=>Q b\/σ.size<=b/\b<w.size)->K s' w) :
 Nw (.cells #[.int .i64 x] t (0,0)) σ λn v=>App addrs 1 8 e [.int .i64 0] ⟨some n,1,1⟩ v K:=by
 have j:addrs.len=ad.length:=by have:=hr.1;simp[Wv]at this;omega
 refine RowR.push (F:=λb=>Q b\/σ.size<=b) (vs:=[.int .i64 x]) (aI.mono hr λb _ a=>.inl a) (λb a=>.inr a) rfl rfl (by simp[one1]) O O λs' w p g m=>hK s' w ⟨g.1,λb a i=>g.2 b a λd=>d.elim i λd=>O⟩ ?_;have:Wv (ad++[x])=Wv ad++[.int .i64 x]:=by simp[Wv]
 rw[this];refine aI.mono (aI.cut m) λb a d=>?_;rcases d.1 with h1|h1
 ·exact .inl h1
 ·exact .inr ⟨h1,a⟩
end Go.Ar
namespace Go.Proofs
open Go.Shelf
def Tryz.keysBL_ren:Go.Shelf.Ren:=⟨fun|7=>67|10=>95|n=>n,fun|23=>44|26=>3|3=>76|28=>117|0=>0|27=>116|33=>152|4=>4|n=>n,fun|n=>n⟩
theorem Tryz.keysBL:Go.Proofs.SlLaysZI.n7 Tryz.prog Tryz.keysBL_ren:={
 mixed:=by kernel_rfl
 f7:=⟨Tryz.f67.name,by decide,Tryz.func67.trans (congrArg some (by kernel_rfl))⟩
 f10:=⟨Tryz.f95.name,by decide,Tryz.func95.trans (congrArg some (by kernel_rfl))⟩
 t0:=Tryz.underlying0
 a0:=Tryz.isAgg0
 z0:=Tryz.sizeOf0
 v0:=Tryz.zeroValue0
 t4:=Tryz.underlying4
 a4:=Tryz.isAgg4
 z4:=Tryz.sizeOf4
 v4:=Tryz.zeroValue4
 t23:=Tryz.underlying44
 a23:=Tryz.isAgg44
 z23:=Tryz.sizeOf44
 v23:=Tryz.zeroValue44
 t26:=Tryz.underlying3
 a26:=Tryz.isAgg3
 z26:=Tryz.sizeOf3
 v26:=Tryz.zeroValue3
 t27:=Tryz.underlying116
 a27:=Tryz.isAgg116
 z27:=Tryz.sizeOf116
 v27:=Tryz.zeroValue116
 t28:=Tryz.underlying117
 a28:=Tryz.isAgg117
 z28:=Tryz.sizeOf117
 v28:=Tryz.zeroValue117
 t33:=Tryz.underlying152
 a33:=Tryz.isAgg152
 z33:=Tryz.sizeOf152
 v33:=Tryz.zeroValue152}
end Go.Proofs
namespace Go.Ar
open Go Go.Vc Go.Proofs Go.RowKit Go.Maps Go.Sort Go.Shelf
open Go.Vc (mget mset mdel)
open Go.Bu (SlF Wch Gx WcE UW Woo)
variable {σ w w':Hp}{F P Q X S:Rg}{L:LayH}{H H':Hw}{held:List Pc}{s0 sp:Sp}{t n:Nat}{g:Th}{σ0:Hp}
def HV:Nat:=Tryz.keysBL_ren.f 10
def Wew:Nat:=Tryz.keysBL_ren.t 23
theorem Wj9 (m:Option Nat){R:Fv->Hp->Prop}(hR:R ⟨HV,#[],#[.pointer (some ⟨σ.size,0,none⟩)]⟩ (σ.push (.cells #[.map m] Wew (0,0)))) :
 ZO.c m σ R:=by
 rintro w rfl;refine(callsIn_wide.1 (AnyZI.keys_in Tryz.keysBL Fence.wide 5 trivial rfl m w)).mono ?_;rintro e a ⟨rfl,rfl⟩;exact⟨⟨rfl,rfl,rfl,zCS (by show _<(w.heap.push _).size;simp)⟩,[.func (.func HV) #[] #[.pointer (some ⟨w.heap.size,0,none⟩)]],rfl,⟨HV,#[],#[.pointer (some ⟨w.heap.size,0,none⟩)]⟩,rfl,hR⟩
theorem WjF {w:World}{c m:Nat}{B:List (Int×Bk)}(hc:cell w.heap ⟨c,0,none⟩=some (.map (some m)))(hm:MapL w.heap m .i64 (.ag 4) B)(hb:∀x∈B,Go.Bu.I64 x.1)(hs:B.length<=1000000)(n:Nat)(hn:1<=n) :
 SeqGives Fence.wide n Tryz.prog HV #[.pointer (some ⟨c,0,none⟩)] encZ (λss=>ss.Perm (B.map (·.1))) B.length w:=by
 obtain⟨D,i,g,b⟩:=UW (P:=Tryz.prog) Tryz.keysBL.t26 hm hb hs;have a:c<w.heap.size:=by
  unfold cell at hc;split at hc
  ·rename_i h;exact(zAQ.1 h).1
  ·cases hc
 have:=AnyZI.keys_gives (ρ:=Tryz.keysBL_ren) {Tryz.keysBL with} Fence.wide n trivial rfl hn c m B.length D w a hc i;intro l J W hW hJ hY h0;rw[b]at this;refine(this l J W hW hJ hY h0).mono ?_;rintro e W' ⟨p,ss,j,d⟩;exact⟨p,ss,j.trans g,d⟩
theorem Wgx {c m:Nat}{B:List (Int×Bk)}(hc:cell σ ⟨c,0,none⟩=some (.map (some m)))(hm:MapL σ m .i64 (.ag 4) B)(hb:∀x∈B,Go.Bu.I64 x.1)(hs:B.length<=1000000){R:Sl->Hp->Prop}
 (hR:∀(s:Sl) (σ':Hp) (ss:List Int),Ext0 σ σ'->ss.Perm (B.map (·.1))->ss.Pairwise (· <= ·)->SlF σ.size σ' s (ss.map (Value.int .i64))->R s σ') :
 VJ.c ⟨HV,#[],#[.pointer (some ⟨c,0,none⟩)]⟩ σ R:=by
 rintro w rfl;have g:=WjF hc hm hb hs 2 O;have p:B.length<=maxLen:=by unfold maxLen;omega
 have z:=AnyZI.sorted_in Tryz.sortedL Fence.wide 5 trivial trivial trivial trivial rfl O (Woo _) (Tryz.sortL.f5.enters rfl) HV #[.pointer (some ⟨c,0,none⟩)] trivial (Tryz.keysBL.f10.enters rfl) _ _ p O _ g;refine(callsIn_wide.1 z).mono ?_;rintro e A ⟨v,ss,rfl,u,i,r,d⟩;obtain⟨s,rfl,j⟩:=Wch i;refine⟨WcE d,[.slice s.a s.len s.cap],rfl,s,rfl,?_⟩;refine hR s _ (ss.mergeSort λx y=>decide (x<=y)) (Gx d) ((List.mergeSort_perm _ _).trans u) ?_ j;have:=List.pairwise_mergeSort (le:=λx y:Int=>decide (x<=y)) (λa b c D C=>by simp at *;omega) (λa b=>by simp;omega) ss;exact this.imp (λh=>by simpa using h)
def bkV (b:Bk):List Value:=[.int .i64 b.1,.int .i64 b.2.1,.int .i64 b.2.2.1,.int .i64 b.2.2.2]
def bksV (bs:List Bk):List Value:=bs.flatMap bkV
theorem G7 (bs:List Bk):(bksV bs).length=bs.length*4:=by
 unfold bksV
 induction bs with
 | nil=>rfl
 | cons b bs ih=>rw[zBB,zK,ih];simp[bkV];omega
theorem Wb6:∀{bs:List Bk} {i:Nat} {b:Bk},bs[i]?=some b->∀{j:Nat} {v:Value},(bkV b)[j]?=some v->(bksV bs)[4*i+j]?=some v
 | [],i,b,h,_,_,_=>by simp at h
 | a::bs,0,b,h,j,v,hv=>by
  simp only[zEX,Option.some.injEq]at h;subst h;have hj:=(gSi.1 hv).1;show(bkV a++bksV bs)[4*0+j]?=_;rw[show 4*0+j=j by omega,ze hj];exact hv
 | a::bs,i+1,b,h,j,v,hv=>by
  have d:=Wb6 (bs:=bs) (i:=i) (b:=b) (by simpa using h) hv;show(bkV a++bksV bs)[4*(i+1)+j]?=_;rw[zm (by simp[bkV];omega)];have:4*(i+1)+j-(bkV a).length=4*i+j:=by simp[bkV];omega
  rw[this];exact d
structure LiveL (live:List (Int×Bk)) (bs:List Bk):Prop where
 len:bs.length=live.length
 mem:∀b,b∈bs↔(b.1,b)∈live
 srt:bs.Pairwise λa b=>a.1<b.1
theorem HI.live_len (h:HI H held s0):H.live.length<=1000000:=by
 have s:(H.live.map λe=>e.1.toNat).Nodup:=by
  have m:=zAE.1 h.lk;refine zAE.2 λi j g r d e=>?_;have a:i<H.live.length:=by simpa using g
  have b:j<H.live.length:=by simpa using r
  refine m i j (by simpa using a) (by simpa using b) d ?_;simp only[zCU]at e ⊢;have y:=(h.size8 (zc a)).2.1;have w:=(h.size8 (zc b)).2.1;omega
 have:=Wcf 270000 _ s λx u=>by
  obtain⟨e,p,rfl⟩:=zC.1 u;have:=h.size8 p;omega
 have z:(H.live.map λe=>e.1.toNat).length=H.live.length:=by simp
 omega
theorem SlR.of_slF {B:Nat}{s:Sl}{xs:List Value}(h:SlF B σ s xs):SlR s 1 xs σ (λb=>B<=b):=by
 refine⟨by have:=h.1;omega,?_⟩;rcases h.2 with⟨h0,_⟩|⟨b,cs,hb,ha,hk,hc⟩
 ·exact .inl h0
 ·exact .inr ⟨b,0,cs,hb,ha,hk.q,λj a=>by rw[zG];exact hc j a⟩
set_option maxRecDepth 8000 in
theorem WfS (h:HH σ F L H)(hi:HI H held s0){R:Sl->Hp->Prop}(hR:∀s σ' bs,Ext0 σ σ'->LiveL H.live bs->RowR s 4 (bksV bs) σ' (λb=>σ.size<=b)->R s σ'):Zp.c (aW L.p) σ R:=by
 refine Zp.o ?_;unfold Zp.v;have E:∀x∈H.live,Go.Bu.I64 x.1:=λx d=>by have:=hi.size8 d;unfold Go.Bu.I64;omega
 have M:=hi.live_len;refine KB h (ifF rfl (nilP (h.hd.rM rfl (Wj9 _ ?_))));have Y:Ext0 σ (σ.push (.cells #[.map (some L.lm)] Wew (0,0))):=Ext.push _ _ _;have G:=h.keep0 Y;refine Wgx (by unfold cell;simp) G.liveM E M λs y ss P J B hs=>?_;have W:=Y.trans P;have A:=SlR.of_slF hs;have U:ss.Nodup:=J.nodup_iff.2 hi.lk;have u:ss.length=H.live.length:=by rw[J.length_eq];simp
 have hsl:s.len=ss.length:=by have:=A.1;simp at this;omega
 have C:∀x∈ss,∃b,mget H.live x=some b/\b.1=x:=λx d=>by
  obtain⟨e,he,rfl⟩:=zC.1 (J.mem_iff.1 d);exact⟨e.2,VV hi.lk he,(hi.lv e he).1⟩
 let f:Int->Bk:=λx=>(mget H.live x).getD (0,0,0,0)
 have r:∀x∈ss,(f x).1=x/\mget H.live x=some (f x):=λx d=>by
  obtain⟨b,g,S⟩:=C x d;have:f x=b:=by show(mget H.live x).getD _=b;rw[g];rfl
  rw[this];exact⟨S,g⟩
 have hz1:σ.size<y.size:=by
  have G:=P.1;have X:(σ.push (.cells #[.map (some L.lm)] Wew (0,0))).size=σ.size+1:=by simp
  omega
 refine Ko (a:=.s) (bb:=bN) (λ(out:Sl) (z:Int) w=>∃i:Nat,z=i/\i<=ss.length/\Ext0 y w/\RowR out 4 (bksV ((ss.take i).map f)) w (λb=>y.size<=b)) (λ_ z _=>ss.length-z.toNat) ⟨0,rfl,O,Ext.refl _ _,⟨by simp[bksV],.inl ⟨rfl,rfl⟩⟩⟩ ?_;rintro(out:Sl) (z:Int) w ⟨i,rfl,hil,ew,hr⟩;have hw:=G.keep0 (P.trans ew);refine ifD (λD=>?_) λhge=>?_
 ·have d:ss[i]?=some (ss[i]' O):=gGe _;have hol:out.len=i:=by have:=hr.1;rw[G7]at this;simp at this;omega
  refine(aH.keep0 (aH.cut A) ew).ixI d (nilP (hw.hd.rM rfl ⟨H.live,hw.liveM,?_⟩));refine hr.push (F:=λb=>y.size<=b) (vs:=bkV (f (ss[i]' O))) (λb g=>by have:=ew.1;omega) rfl rfl (by simp[bkV,one1]) O O λs' w' Z N Q=>?_;have e3:Ext0 y w':=Ext.fresh ew N λb g=>g;refine arN (m:=i+1) O O ⟨⟨i+1,rfl,O,e3,?_⟩,O⟩;have:bksV ((ss.take (i+1)).map f)=bksV ((ss.take i).map f)++bkV (f (ss[i]' O)):=by
   unfold bksV;rw[zh,d,zAD,zGL];simp only[zDG,zJ,zCC,zBB,List.flatMap_nil,zy]
  rw[this];exact Q
 ·have V:i=ss.length:=by omega
  subst V;rw[zl]at hr;refine hR out w (ss.map f) (W.trans ew) ⟨by simp[u],λb=>?_,?_⟩ (aI.mono hr λb _ g=>by
   show σ.size<=b;have g:y.size<=b:=g;omega)
  ·constructor
   ·intro g;obtain⟨x,d,rfl⟩:=zC.1 g;obtain⟨q1,q2⟩:=r x d;rw[q1];exact KU q2
   ·intro g;have d:b.1∈ss:=J.mem_iff.2 (zC.2 ⟨_,g,rfl⟩);refine zC.2 ⟨b.1,d,?_⟩;have:=(r _ d).2;rw[VV hi.lk g]at this;exact(Option.some.inj this).symm
  ·rw[zCN];have D:ss.Pairwise (· < ·):=(B.and U).imp λ⟨G,X⟩=>by
    have:_≠_:=X;omega
   refine zAE.2 λi j hi hj K=>?_;rw[(r _ (zc hi)).1,(r _ (zc hj)).1];exact zAE.1 D i j hi hj K
theorem WoA {s:Sl}{bs:List Bk}(hs:SlR s 4 (bksV bs) σ F){i:Nat}{b:Bk}(hb:bs[i]?=some b){K:Addr->Prop}(hK:∀bb o,(∀(j:Nat) v,(bkV b)[j]?=some v->cell σ ⟨bb,o+j,none⟩=some v)->K ⟨bb,o,none⟩):Ix s.a s.len (i:Int) 4 K:=by
 have p:=(gSi.1 hb).1;have u:s.len=bs.length:=by have:=hs.1;rw[G7]at this;omega
 obtain⟨bb,o,e,x⟩:=hs.cell (Wb6 hb (j:=0) rfl);rw[e];refine ix O O ?_;rw[add_lit,iTn];refine hK bb _ λj v m=>?_;obtain⟨w,r,d,g⟩:=hs.cell (Wb6 hb m);rw[e]at d;cases d;rw[←g];congr 2;omega
end Go.Ar
namespace Go.Ar
open Go.Bu (cnt)
variable {W:Wd}{k:Nat}{A:AR}
def at2 {α:Type}(f:Cls->α->Nat)(tb:List Cls)(l:List α)(j:Nat):Nat:=match tb[j]?,l[j]? with
 | some c,some a=>f c a
 | _,_=>0
theorem WoU {α:Type}{f:Cls->α->Nat}{tb:List Cls}{l:List α}{j:Nat}{c:Cls}{a:α}(h1:tb[j]?=some c)(h2:l[j]?=some a):at2 f tb l j=f c a:=by unfold at2;rw[h1,h2]
theorem Wi3 {α:Type}(f:Cls->α->Nat):∀(tb:List Cls) (l:List α),l.length=tb.length->((tb.zip l).map λx=>f x.1 x.2).sum=((List.range tb.length).map (at2 f tb l)).sum
 | [],l,h=>by simp
 | c::tb,[],h=>by simp at h
 | c::tb,a::l,h=>by
  have ih:=Wi3 f tb l (by simpa using h);rw[zGV,zJ,zr,ih,zP,zFR,zJ,zr,zAC];rfl
def pgL (c:Cls)(ss:List SpA):List Nat:=ss.flatMap λs=>(List.range c.pages).map (s.st + ·)
theorem WmC (c:Cls)(ss:List SpA):(pgL c ss).length=ss.length*c.pages:=by
 induction ss with
 | nil=>simp[pgL]
 | cons s ss ih=>
  have e:pgL c (s::ss)=(List.range c.pages).map (s.st + ·)++pgL c ss:=rfl;rw[e,zK,ih];simp[zj];omega
theorem Wd4 {c:Cls}{ss:List SpA}{p:Nat}:p∈pgL c ss↔Cov c ss p:=by
 simp only[pgL,zCP,zC,zU,Cov];constructor
 ·rintro⟨s,hs,i,hi,rfl⟩;exact⟨s,hs,O,O⟩
 ·rintro⟨s,hs,h1,h2⟩;exact⟨s,hs,p-s.st,O,O⟩
theorem Wha {c:Cls}{ss:List SpA}(h:ss.Pairwise λa b=>a.st+c.pages<=b.st):(pgL c ss).Nodup:=by
 induction ss with
 | nil=>exact zCQ
 | cons s ss ih=>
  have g:=zAR.1 h;have e:pgL c (s::ss)=(List.range c.pages).map (s.st + ·)++pgL c ss:=rfl;rw[e,zBJ];refine⟨?_,ih g.2,λa m b p e=>?_⟩
  ·exact List.Pairwise.map (R:=(· ≠ ·)) _ (λa b d e=>d O) zER
  ·subst e;obtain⟨i,j,rfl⟩:=zC.1 m;obtain⟨t,r,w,u⟩:=Wd4.1 p;have:=g.1 t r;have:=zU.1 j;omega
def rnL (l:List (Nat×Nat)):List Nat:=l.flatMap λr=>(List.range r.2).map (r.1 + ·)
theorem Wme (l:List (Nat×Nat)):(rnL l).length=(l.map (·.2)).sum:=by
 induction l with
 | nil=>rfl
 | cons r l ih=>
  have e:rnL (r::l)=(List.range r.2).map (r.1 + ·)++rnL l:=rfl;rw[e,zK,ih];simp
theorem WeS {l:List (Nat×Nat)}{p:Nat}:p∈rnL l↔inR l p:=by
 simp only[rnL,zCP,zC,zU,inR];constructor
 ·rintro⟨s,hs,i,hi,rfl⟩;exact⟨s,hs,O,O⟩
 ·rintro⟨s,hs,h1,h2⟩;exact⟨s,hs,p-s.1,O,O⟩
theorem Wg9 {l:List (Nat×Nat)}(h:l.Pairwise λa b=>a.1+a.2<=b.1\/b.1+b.2<=a.1):(rnL l).Nodup:=by
 induction l with
 | nil=>exact zCQ
 | cons s ss ih=>
  have g:=zAR.1 h;have e:rnL (s::ss)=(List.range s.2).map (s.1 + ·)++rnL ss:=rfl;rw[e,zBJ];refine⟨?_,ih g.2,λa m b p e=>?_⟩
  ·exact List.Pairwise.map (R:=(· ≠ ·)) _ (λa b d e=>d O) zER
  ·subst e;obtain⟨i,j,rfl⟩:=zC.1 m;obtain⟨t,r,w,u⟩:=WeS.1 p;have:=g.1 t r;have:=zU.1 j;omega
theorem WbJ {n:Nat}{l:List Nat}(hn:l.Nodup)(hl:∀x∈l,x<n){f:Nat->Bool}(hf:∀p,p<n->(f p=true↔p∈l)):(List.range n).countP f=l.length:=by
 rw[zES];refine List.Perm.length_eq ?_;rw[zEQ (List.nodup_range.filter _) hn];intro x;rw[zH,zU];exact⟨λ⟨a,b⟩=>(hf x a).1 b,λd=>⟨hl x d,(hf x (hl x d)).2 d⟩⟩
theorem WhG (ga:GA A):Uc A+Ue A+cnt A.n A.S=(List.range A.n).countP λ(p:Nat)=>UN A (p:Int):=by
 have key:∀m,m<=A.tb.length->(List.range A.n).countP (λp=>A.ow p != 0&&decide (A.ow p<=m))=((List.range m).map (at2 (λc d=>d.length*c.pages) A.tb A.cen)).sum:=by
  intro m
  induction m with
  | zero=>
   intro _;simp
  | succ m ih=>
   intro hm;rw[zAB,zAD,zDK,←ih O,List.map_singleton,List.sum_singleton];obtain⟨c,d,t,j,_⟩:=ga.cl (k:=m) O;have L:=ga.cen m c d j;rw[WoU j.1 j.2,←WmC c d,←WbJ (n:=A.n) (Wha L.far) (λx b=>by
    obtain⟨s,g,a,e⟩:=Wd4.1 b;exact ga.pg.lt (by rw[(ga.used j g a e).1];omega)) (f:=λp=>A.ow p==m+1) (λp _=>by rw[Wd4,←ga.ow m c d j p];simp)]
   symm
   apply Go.Bu.countP_add;intro p _;by_cases a:A.ow p=m+1
   ·simp[a]
   ·by_cases e:A.ow p<=m
    ·have:(A.ow p==m+1)=false:=by simpa using a
     have w:decide (A.ow p<=m+1)=true:=by simp;omega
     simp[this,e,w]
    ·have:(A.ow p==m+1)=false:=by simpa using a
     have w:¬A.ow p<=m+1:=by omega
     simp[this,e,w]
 have z:=key A.tb.length (zD _);have E:Uc A=(List.range A.n).countP (λp=>A.ow p != 0&&decide (A.ow p<=A.tb.length)):=by
  rw[z];unfold Uc;rw[Wi3 (λc d=>d.length*c.pages) A.tb A.cen ga.lc]
 have B:Ue A=(List.range A.n).countP (λp=>A.ow p==41):=by
  unfold Ue;rw[←Wme,WbJ (Wg9 ga.rdis) (λx b=>by
   obtain⟨r,D,a,e⟩:=WeS.1 b;exact ga.pg.lt (by rw[(ga.usedR D a e).1];omega)) (f:=λp=>A.ow p==41) (λp _=>by rw[WeS,←ga.ow41];simp)]
 have J:=ga.tb;have K:(List.range A.n).countP (λp=>A.ow p != 0&&decide (A.ow p<=A.tb.length))+(List.range A.n).countP (λp=>A.ow p==41)=(List.range A.n).countP (λp=>A.ow p != 0):=by
  apply Go.Bu.countP_add;intro p _;rcases ga.owb p with a|a
  ·have:¬A.ow p<=A.tb.length:=by omega
   simp[a];omega
  ·have:(A.ow p==41)=false:=by simp;omega
   simp[this,a]
 have C:(List.range A.n).countP (λp=>A.ow p != 0)+(List.range A.n).countP A.S=(List.range A.n).countP λ(p:Nat)=>UN A (p:Int):=by
  apply Go.Bu.countP_add;intro p _;have u:=ga.pg.us p;have g:=ga.pg.fr p;have G:UN A (p:Int)=decide (A.f p≠0):=by
   unfold UN AR.f gf;rw[zW (show(0:Int)<=p by omega),zEI,iTn]
  rw[G];have F:=ga.pg.le p;by_cases h0:A.f p=0
  ·have:A.ow p=0:=Classical.byContradiction λy=>by have:=u.2 y;omega
   have i:A.S p=false:=by apply zAT.2;intro b;have:=g.1 b;omega
   simp[h0,this,i]
  ·by_cases a:A.f p=1
   ·have H:=u.1 a;have i:A.S p=false:=by apply zAT.2;intro b;have:=g.1 b;omega
    simp[a,H,i]
   ·have:A.ow p=0:=Classical.byContradiction λy=>a (u.2 y);have i:A.S p=true:=g.2 O;simp[h0,this,i]
 unfold cnt;rw[E,B,K,C]
theorem Wcw (ga:GA A):Ue A<=1024:=by
 have a:=WhG ga;have b:(List.range A.n).countP (λ(p:Nat)=>UN A (p:Int))<=A.n:=by
  refine zI zEE ?_;rw[zBS];exact zD _
 have:=ga.pg.n2;omega
end Go.Ar
namespace Go.Ar
open Go Go.Vc Go.Proofs
open Go.Vc (mget mset mdel)
open Go.Bu (cnt)
variable {σ v w w':Hp}{F P Q X:Rg}{L:LayH}{H H':Hw}{held:List Pc}{s0:Sp}{t n:Nat}{g:Th}{nb sb m:Nat}{x:List Int}
def sz0 (b:Bk):Int:=if 0<=b.2.2.1 then b.2.1 else 0
def HM (l:List (Int×Bk)):Int:=(l.map λe=>sz0 e.2).sum
def V7 (H:Hw):Nat:=(H.ths.map λg=>Qt H.tb g.ls).sum
def Vf (f:AR->Nat)(H:Hw):Nat:=(H.ars.map f).sum
def Vr (A:AR):Nat:=cnt A.n A.S
theorem Wfg {α:Type}(f:α->Int):∀{l:List (Int×α)} {n:Int} {x:α},(l.map (·.1)).Nodup->(n,x)∈l->(l.map λe=>f e.2).sum=f x+((l.filter λy=>!(y.1==n)).map λe=>f e.2).sum
 | [],_,_,_,h=>by simp at h
 | y::l,n,x,hn,h=>by
  simp only[zJ,zo]at hn;rcases zQ.1 h with h1|h1
  ·subst h1;have:l.filter (λy=>!(y.1==n))=l:=by
    rw[zBK];intro z hz;have:z.1≠n:=λe=>hn.1 (zC.2 ⟨z,hz,e⟩);simpa using this
   rw[zDL aA,this];simp
  ·have a:y.1≠n:=λe=>hn.1 (zC.2 ⟨_,h1,e.symm⟩);rw[zDM (by simpa using a)];simp only[zJ,zr];rw[Wfg f hn.2 h1];omega
theorem U9 {α:Type}{f:α->Int}{c:Int}:∀{l:List α},(∀e∈l,0<=f e/\f e<=c)->0<=(l.map f).sum/\(l.map f).sum<=l.length*c
 | [],_=>by simp
 | a::l,h=>by
  have h1:=h a zAP;have d:=U9 λe b=>h e (zAM _ b);simp only[zJ,zr,zP,Int.natCast_add,Int.add_mul];omega
theorem WiR (hi:HI H held s0){e:Int×Bk}(he:e∈H.live):0<=sz0 e.2/\sz0 e.2<=270000:=by
 have:=hi.size8 he;unfold sz0;split<;>omega
theorem WdC {α:Type}(f:α->Nat){l:List α}{i:Nat}{a:α}(h:l[i]?=some a):((l.take (i+1)).map f).sum=((l.take i).map f).sum+f a:=by
 rw[zh,h];simp
theorem WmF {α:Type}{f:α->Nat}{c:Nat}{l:List α}(h:∀a∈l,f a<=c):(l.map f).sum<=l.length*c:=by
 induction l with
 | nil=>simp
 | cons a l ih=>
  have d:=h a zAP;have g:=ih λe b=>h e (zAM _ b);simp only[zJ,zr,zP,zj];omega
theorem WgT {α:Type}{f:α->Nat}{c:Nat}{l:List α}(h:∀a∈l,f a<=c)(i:Nat):((l.take i).map f).sum<=i*c:=
 zI (WmF λa b=>h a (zAY b)) (zAJ c (by rw[zO];omega))
def V3:List Value:=[.int .i64 0,.int .i64 0,.int .i64 0,.int .i64 0,.int .i64 0,.int .i64 0,.int .i64 0,.int .i64 0,.int .i64 0,.int .i64 0,.int .i64 0]
structure StB (σ:Hp) (nb sb:Nat) (v:Hp) (x:List Int):Prop where
 e:Ext0 σ v
 n:Blk v nb V3
 s:Blk v sb (x.map (Value.int .i64))
 h1:σ.size<=nb
 h2:σ.size<=sb
 h3:nb≠sb
 hl:x.length=11
theorem StB.fr (h:StB σ nb sb v x)(e:Ext0 v w):StB σ nb sb w x:=⟨h.e.trans e,e.blk h.n id,e.blk h.s id,h.h1,h.h2,h.h3,h.hl⟩
theorem StB.own (h:StB σ nb sb v x)(o:QD v w m)(h4:v.size<=m\/m≠nb/\m≠sb/\σ.size<=m):StB σ nb sb w x:=by
 have d:=h.n.lt;have j:=h.s.lt;have g:=h.e.1;exact⟨Ext.fresh h.e o.ext λi (b:i=m)=>O,o.ext.blk h.n λ(a:nb=m)=>O,o.ext.blk h.s λ(a:sb=m)=>O,h.h1,h.h2,h.h3,h.hl⟩
theorem StB.rd (h:StB σ nb sb v x){i:Nat}{y:Int}(hy:x[i]?=some y){K:Int->Prop}(hK:K y):LdI .i64 (Addr.add ⟨sb,0,none⟩ i) v K:=
 h.s.rI (by rw[zG,zf,hy];rfl) hK
theorem StB.st (h:StB σ nb sb v x){i:Nat}{y:Int}(hi:i<11){K:aP}(hK:∀w,Ext (· = sb) v w->StB σ nb sb w (x.set i y)->K w):St1 (Addr.add ⟨sb,0,none⟩ i) (.int .i64 y) v K:=by
 have hl:=h.hl;refine h.s.s1 (by rw[za];omega) λw o b=>hK w o.ext ⟨Ext.fresh h.e o.ext λi (hi:i=sb)=>by have:=h.h2;omega,o.ext.blk h.n λ(a:nb=sb)=>h.h3 a,?_,h.h1,h.h2,h.h3,by rw[zBR,hl]⟩;rw[zG,←zDJ]at b;exact b
theorem Wo3 {K:Fam [.ad]}{body:Fam [.ad]->Prop}(P:Addr->Hp->Prop)(h1:∀r w,P r w->K r w)(h2:∀J:Fam [.ad],(∀r w,P r w->J r w)->body J):Jn [.ad] K body:=Jn.intro (h2 K h1)
theorem BtR.nil_len {s:Sl}(h:BtR s [] σ F):s.len=0:=by have:=h.len;simpa using this
theorem HH.hnS (h:HH σ F L H){x:LayT}(hx:L.ts[t]?=some x)(hg:H.ths[t]?=some g):BtR x.h g.hands σ F:=by
 obtain⟨G,d,a⟩:=h.sep.get (.hn t);simp only[CH,hx,hg,HnH]at a;exact Lcl.mono (BtR.loc _ _) a λb _ a=>d b a
theorem HH.caS (h:HH σ F L H){x:LayT}(hx:L.ts[t]?=some x)(hg:H.ths[t]?=some g):CaY σ F x.c H.tb H.cf.budget g.ls:=by
 obtain⟨G,d,a⟩:=h.sep.get (.ca t);simp only[CH,hx,hg,CaH]at a;exact Lcl.mono CaY.loc a λb _ a=>d b a
theorem WaO {A:AR}(ga:GA A):Vr A<=1024:=by
 have a:Vr A<=A.n:=by
  unfold Vr cnt;refine zI zEE ?_;rw[zBS];exact zD _
 have:=ga.pg.n2;omega
theorem StB.rdH (h:StB σ nb sb v x){i:Nat}{y:Int}(hy:x[i]?=some y){K:Int->Prop}(hK:K y):LdH (λm=>Ext0 v m) bN (Addr.add ⟨sb,0,none⟩ i) K:=
 ⟨y,λm a=>by rw[add_lit,(Ext.blk a h.s id).cell,zG,zf,hy];rfl,hK⟩
theorem Blk.rH {b i:Nat}{cs:List Value}{c:CK}{y:c.T}(hb:Blk v b cs)(hc:cs[i]?=some (c.v y)){K:c.T->Prop}(hK:K y):LdH (λm=>Ext0 v m) c (Addr.add ⟨b,0,none⟩ i) K:=
 ⟨y,λm a=>by rw[add_lit,(Ext.blk a hb id).cell,zG];exact hc,hK⟩
theorem st11 {b:Nat}(hb:Blk v b V3)(a0 a1 a2 a3 a4 a5 a6 a7 a8 a9 a10:Int){K:aP}(hK:∀w,Ext (· = b) v w->Blk w b ([a0,a1,a2,a3,a4,a5,a6,a7,a8,a9,a10].map (Value.int .i64))->K w) :
 St1 (Addr.add ⟨b,0,none⟩ 0) (.int .i64 a0) v λv57=>St1 (Addr.add ⟨b,0,none⟩ 1) (.int .i64 a1) v57 λv58=>St1 (Addr.add ⟨b,0,none⟩ 2) (.int .i64 a2) v58 λv59=>St1 (Addr.add ⟨b,0,none⟩ 3) (.int .i64 a3) v59 λv60=>
 St1 (Addr.add ⟨b,0,none⟩ 4) (.int .i64 a4) v60 λv61=>St1 (Addr.add ⟨b,0,none⟩ 5) (.int .i64 a5) v61 λv62=>St1 (Addr.add ⟨b,0,none⟩ 6) (.int .i64 a6) v62 λv63=>St1 (Addr.add ⟨b,0,none⟩ 7) (.int .i64 a7) v63 λv64=>
 St1 (Addr.add ⟨b,0,none⟩ 8) (.int .i64 a8) v64 λv65=>St1 (Addr.add ⟨b,0,none⟩ 9) (.int .i64 a9) v65 λv66=>St1 (Addr.add ⟨b,0,none⟩ 10) (.int .i64 a10) v66 K:=by
 unfold V3 at hb;refine hb.s1 aA λB o1 m=>m.s1 aA λA o2 i=>i.s1 aA λv3 o3 p=>p.s1 aA λE o4 r=>r.s1 aA λC o5 y=>y.s1 aA λz o6 j=>j.s1 aA λG o7 s=>s.s1 aA λF o8 u=>u.s1 aA λD o9 x=>x.s1 aA λv10 o10 e=>e.s1 aA λd a g=>?_;exact hK d ((((((((((o1.ext.trans o2.ext).trans o3.ext).trans o4.ext).trans o5.ext).trans o6.ext).trans o7.ext).trans o8.ext).trans o9.ext).trans o10.ext).trans a.ext) g
theorem StB.fin {a0 a1 a2 a3 a4 a5 a6 a7 a8 a9 a10:Int}(B:StB σ nb sb v [a0,a1,a2,a3,a4,a5,a6,a7,a8,a9,a10]){R:Int->Int->Int->Int->Int->Int->Int->Int->Int->Int->Int->Hp->Prop}(hR:∀w,Ext0 σ w->R a0 a1 a2 a3 a4 a5 a6 a7 a8 a9 a10 w) :
 LdI .i64 (Addr.add ⟨sb,0,none⟩ 0) v λt0=>LdI .i64 (Addr.add ⟨sb,0,none⟩ 1) v λt1=>LdI .i64 (Addr.add ⟨sb,0,none⟩ 2) v λt2=>LdI .i64 (Addr.add ⟨sb,0,none⟩ 3) v λt3=>LdI .i64 (Addr.add ⟨sb,0,none⟩ 4) v λt4=>
 LdI .i64 (Addr.add ⟨sb,0,none⟩ 5) v λt5=>LdI .i64 (Addr.add ⟨sb,0,none⟩ 6) v λt6=>LdI .i64 (Addr.add ⟨sb,0,none⟩ 7) v λt7=>LdI .i64 (Addr.add ⟨sb,0,none⟩ 8) v λt8=>LdI .i64 (Addr.add ⟨sb,0,none⟩ 9) v λt9=>LdI .i64 (Addr.add ⟨sb,0,none⟩ 10) v λt10=>
 St1 (Addr.add ⟨nb,0,none⟩ 0) (.int .i64 t0) v λv57=>St1 (Addr.add ⟨nb,0,none⟩ 1) (.int .i64 t1) v57 λv58=>St1 (Addr.add ⟨nb,0,none⟩ 2) (.int .i64 t2) v58 λv59=>St1 (Addr.add ⟨nb,0,none⟩ 3) (.int .i64 t3) v59 λv60=>
 St1 (Addr.add ⟨nb,0,none⟩ 4) (.int .i64 t4) v60 λv61=>St1 (Addr.add ⟨nb,0,none⟩ 5) (.int .i64 t5) v61 λv62=>St1 (Addr.add ⟨nb,0,none⟩ 6) (.int .i64 t6) v62 λv63=>St1 (Addr.add ⟨nb,0,none⟩ 7) (.int .i64 t7) v63 λv64=>
 St1 (Addr.add ⟨nb,0,none⟩ 8) (.int .i64 t8) v64 λv65=>St1 (Addr.add ⟨nb,0,none⟩ 9) (.int .i64 t9) v65 λv66=>St1 (Addr.add ⟨nb,0,none⟩ 10) (.int .i64 t10) v66 λv67=>
 LdI .i64 (Addr.add ⟨nb,0,none⟩ 0) v67 λt0=>LdI .i64 (Addr.add ⟨nb,0,none⟩ 1) v67 λt1=>LdI .i64 (Addr.add ⟨nb,0,none⟩ 2) v67 λt2=>LdI .i64 (Addr.add ⟨nb,0,none⟩ 3) v67 λt3=>LdI .i64 (Addr.add ⟨nb,0,none⟩ 4) v67 λt4=>
 LdI .i64 (Addr.add ⟨nb,0,none⟩ 5) v67 λt5=>LdI .i64 (Addr.add ⟨nb,0,none⟩ 6) v67 λt6=>LdI .i64 (Addr.add ⟨nb,0,none⟩ 7) v67 λt7=>LdI .i64 (Addr.add ⟨nb,0,none⟩ 8) v67 λt8=>LdI .i64 (Addr.add ⟨nb,0,none⟩ 9) v67 λt9=>LdI .i64 (Addr.add ⟨nb,0,none⟩ 10) v67 λt10=>
 R t0 t1 t2 t3 t4 t5 t6 t7 t8 t9 t10 v67:=by
 refine B.rd rfl (B.rd rfl (B.rd rfl (B.rd rfl (B.rd rfl (B.rd rfl (B.rd rfl (B.rd rfl (B.rd rfl (B.rd rfl (B.rd rfl (st11 B.n a0 a1 a2 a3 a4 a5 a6 a7 a8 a9 a10 λw e b=>?_)))))))))));refine b.rI rfl (b.rI rfl (b.rI rfl (b.rI rfl (b.rI rfl (b.rI rfl (b.rI rfl (b.rI rfl (b.rI rfl (b.rI rfl (b.rI rfl (hR w ?_)))))))))));exact Ext.fresh B.e e λi (a:i=nb)=>by have:=B.h1;omega
theorem HH.tBox (h:HH σ F L H){x:LayT}(hx:L.ts[t]?=some x)(hg:H.ths[t]?=some g){ty:Nat}{K:Addr->Hp->Prop}(hK:∀v,Ext0 σ v->σ.size<v.size->Blk v σ.size (thV (x,g))->K ⟨σ.size,0,none⟩ v) :
 Ix L.trow.a L.trow.len (t:Int) 3 λa58=>LdP (a58.add 0) σ λt59=>LdS (a58.add 1) σ λt591=>LdR (a58.add 2) σ λt592=>
  Nw (.cells #[.pointer none,.slice none 0 0,.nilIface] ty (0,0)) σ λn7 v17=>O1 t592<|St1 (n7.add 0) (.pointer t59) v17 λv18=>St1 (n7.add 1) (.slice t591.a t591.len t591.cap) v18 λv19=>St1 (n7.add 2) t592 v19 λv20=>K n7 v20:=by
 obtain⟨b,o,s,C⟩:=Ur h.trowS hx hg (d:=0) O rfl;obtain⟨Q,o1,e,y⟩:=Ur h.trowS hx hg (d:=1) O rfl;obtain⟨m,o2,j,D⟩:=Ur h.trowS hx hg (d:=2) O rfl;rw[s]at e j;cases e;cases j;have R:=h.trowL;have N:=(gSi.1 hg).1;rw[s];refine ix O O ?_;rw[add_lit,show o+(t:Int).toNat*3=o+3*t by omega];refine ldP (by rw[add_lit,zCF];exact C) (ldS (by rw[add_lit,zCF];exact y) ⟨_,by rw[add_lit,zCF];exact D,?_⟩);refine nw (cs:=[.pointer none,.slice none 0 0,.nilIface]) λP G w m=>?_;have J:∀{A:Prop},A->O1 (phV g.ph) A:=λ{A} u=>by
  cases g.ph with
  | none=>exact u
  | some p=>cases p<;>exact u
 refine J (m.s1 aA λv3 o3 z=>z.s1 aA λS o4 E=>E.s1 aA λB o5 M=>?_);exact hK B (Ext.fresh (Ext.fresh (Ext.fresh w o3.ext λi r=>O) o4.ext λi r=>O) o5.ext λi r=>O) (by have:=o3.1;have:=o4.1;have:=o5.1;omega) M
structure StOk (H:Hw):Prop where
 cache:V7 H<=20971520
 moved:Vf Ub H<=160000000000
 room:Vf Wbd H<=160000000000
 tails:Vf UA H<=160000000000
 spans:Vf Uc H<=160000000000
 runs:Vf Ue H<=4096
 free:Vf Vr H<=4096
set_option maxRecDepth 16000 in
theorem WaR (h:HH σ F L H)(hi:HI H held s0)(hh:∀g∈H.ths,g.hands=[]){R:Int->Int->Int->Int->Int->Int->Int->Int->Int->Int->Int->Hp->Prop}
 (hR:∀σ',Ext0 σ σ'->StOk H->R (HM H.live) (V7 H:Nat) 0 (Vf Ub H:Nat) (Vf Wbd H:Nat) (Vf UA H:Nat) (Vf Ue H*256:Nat) (Vf Uc H:Nat) (Vf Vr H:Nat) (VE H.sp.st:Nat) (H.sp.st.count 2:Nat) σ'):XB.c (aW L.p) σ R:=by
 refine XB.o ?_;unfold XB.v;refine nw (cs:=V3) λv hz e hb=>KB (h.keep0 e) (ifF rfl ?_);have hv:=h.keep0 e;generalize hm0:((VE H.sp.st:Nat):Int)=M at hR;generalize hd0:((H.sp.st.count 2:Nat):Int)=D at hR;refine Wo3 (λs w=>∃d,s=⟨d,0,none⟩/\StB σ σ.size d w [0,0,0,0,0,0,0,0,0,M,D]) (λs w ⟨d,hs,B⟩=>?_) λJ hJ=>?_
 ·subst hs;have hw:=h.keep0 B.e;have B0:=B;refine nilP (hw.hd.rM rfl ?_);have hml:=hw.liveM;have hll:=hi.live_len;refine rng0 (c:=.ag 4) hml (λ(b:List (Int×Bk)) u=>∃z:Int,StB σ σ.size d u [z,0,0,0,0,0,0,0,0,M,D]/\(b.map (·.1)).Nodup/\(∀y∈b,y∈H.live)/\0<=z/\z+(b.map λe=>sz0 e.2).sum=HM H.live) (λu hz eu=>⟨0,B.fr eu,hml.nodup,λy hy=>hy,O,by rw[Int.zero_add];rfl⟩) (λu ⟨z,B,_,_,_,hz⟩=>?_) ?_
  ·have hz':z=HM H.live:=by simpa using hz
   subst hz';have hu:=h.keep0 B.e;have ht2:=h.s.t2;refine nilP (hu.hd.rS rfl ?_);refine ZS (a:=bN) (λ(i:Int) u=>∃k:Nat,i=k/\k<=H.ths.length/\StB σ σ.size d u [HM H.live,(((H.ths.take k).map λg=>Qt H.tb g.ls).sum:Nat),0,0,0,0,0,0,0,M,D]/\((H.ths.take k).map λg=>Qt H.tb g.ls).sum<=k*5242880) (λi _=>H.ths.length-i.toNat) ⟨0,rfl,O,by simpa using B,by simp⟩ ?_;rintro(i:Int) u1 ⟨k,rfl,hk,B,hsum⟩;have h1:=h.keep0 B.e;have htl:=h1.trowL;refine ifD (λU=>?_) λab=>?_
   ·have V:k<H.ths.length:=by simp only at U;omega
    obtain⟨x,g,N,W⟩:=h1.th V;have hsb:=B.s.lt;refine h1.tBox N W λv1 e1 hlt1 b1=>?_;have B1:=B.fr e1;have h2:=h1.keep0 e1;have hca:=h2.caS N W;have hby:=Wdv hca hca.lok;have hnl:=h2.hnS N W;rw[hh g (zE W)]at hnl;refine⟨λm=>Ext0 v1 m,Ext.refl _ _,B1.rdH rfl (Blk.rH (c:=.p) (y:=some ⟨x.c.p,0,none⟩) b1 rfl (WcH hca λv2 e2=>⟨e2,?_⟩))⟩;have B2:=B1.fr e2;have b2:=e2.blk b1 id;have hs:=WdC (λg=>Qt H.tb g.ls) W;refine arN (m:=((H.ths.take (k+1)).map λg=>Qt H.tb g.ls).sum) (by rw[hs];simp) (by rw[hs];omega) (B2.st O λv3 e3 B3=>?_);have b3:=e3.blk b2 (λ(N:u1.size=d)=>O);refine b3.rS rfl (ZS (a:=bN) (λ(c:Int) w=>w=v3/\c=0) (λ_ _=>0) ⟨rfl,rfl⟩ ?_);rintro(c:Int) w ⟨rfl,rfl⟩;refine ifD (λhl=>?_) λ_=>arN (m:=k+1) O O ⟨⟨k+1,rfl,O,B3,by rw[hs];omega⟩,O⟩;have:=hnl.nil_len;simp only at hl;omega
   ·have hkk:k=H.ths.length:=by simp only at ab;omega
    subst hkk;rw[zl]at B hsum;have X:V7 H<=20971520:=by unfold V7;omega
    have ha2:=h.s.a2;refine nilP (h1.hd.rS rfl ?_);have G:∀A∈H.ars,GA A:=λA j=>by obtain⟨k,hk⟩:=zN j;exact hi.wi.ga k A hk
    let P (f:AR->Nat) (k:Nat):Nat:=((H.ars.take k).map f).sum
    have hP:∀(f:AR->Nat) {k:Nat} {A:AR},H.ars[k]?=some A->P f (k+1)=P f k+f A:=λf _ _ j=>WdC f j;have Q:∀{f:AR->Nat} {c:Nat},(∀A∈H.ars,f A<=c)->∀k,P f k<=k*c:=λhf k=>WgT hf k;have C:∀f,P f H.ars.length=Vf f H:=λf=>by show((H.ars.take H.ars.length).map f).sum=_;rw[zl];rfl
    have E:∀f,P f 0=0:=λf=>by show((H.ars.take 0).map f).sum=0;simp
    clear_value P
    refine ZS (a:=bN) (λ(i:Int) u=>∃k:Nat,i=k/\k<=H.ars.length/\StB σ σ.size d u [HM H.live,(V7 H:Nat),0,(P Ub k:Nat),(P Wbd k:Nat),(P UA k:Nat),(P Ue k*256:Nat),(P Uc k:Nat),(P Vr k:Nat),M,D]/\P Ub k<=k*40000000000/\P Wbd k<=k*40000000000/\P UA k<=k*40000000000/\P Uc k<=k*40000000000) (λi _=>H.ars.length-i.toNat) ⟨0,rfl,O,?_⟩ ?_
    ·rw[E,E,E,E,E,E];exact⟨B,O,O,O,O⟩
    rintro(i:Int) u2 ⟨k,rfl,hk,B,l1,l2,l3,l4⟩;have h2:=h.keep0 B.e;have hal:=h2.arowL;refine ifD (λU=>?_) λab=>?_
    ·have V:k<H.ars.length:=by simp only at U;omega
     have j:H.ars[k]?=some H.ars[k]:=gGe _;generalize H.ars[k]=A at j;have ga:=G A (zE j);have r5:=Wcw ga;have r6:=WaO ga;obtain⟨Y,hy,_,hAY⟩:=h2.ar j;refine h2.rA hy (WeI hAY O λv2 e2 ⟨r1,r2,r3,r4⟩=>?_);have B2:=B.fr e2;have s1:=hP Ub j;have s2:=hP Wbd j;have s3:=hP UA j;have s4:=hP Uc j;have s5:=hP Ue j;have s6:=hP Vr j;have l5:=Q (f:=Ue) (λA j=>Wcw (G A j)) k;have l6:=Q (f:=Vr) (λA j=>WaO (G A j)) k;have hfr:((cnt A.n A.S:Nat):Int)=(Vr A:Nat):=rfl;refine B2.rd rfl (arN (m:=P Ub (k+1)) (by rw[s1];simp) O (B2.rd rfl (arN (m:=P Wbd (k+1)) (by rw[s2];simp) O (B2.rd rfl (arN (m:=P UA (k+1)) (by rw[s3];simp) O ?_)))));refine B2.st O λv3 _ B3=>B3.st O λv4 _ B4=>B4.st O λv5 _ B5=>?_;refine B5.rd rfl (arN (m:=P Uc (k+1)) (by rw[s4];simp) O (B5.rd rfl (arN (m:=Ue A*256) aA O (arN (m:=P Ue (k+1)*256) (by rw[s5,zj];simp) O (B5.rd rfl (arN (m:=P Vr (k+1)) (by rw[s6,hfr];simp) O ?_))))));refine B5.st O λv6 _ B6=>B6.st O λv7 _ B7=>B7.st O λv8 _ B8=>?_;exact arN (m:=k+1) O O ⟨⟨k+1,rfl,O,B8,O,O,O,O⟩,O⟩
    ·have hkk:k=H.ars.length:=by simp only at ab;omega
     subst hkk;have l5:=Q (f:=Ue) (λA j=>Wcw (G A j)) H.ars.length;have l6:=Q (f:=Vr) (λA j=>WaO (G A j)) H.ars.length;rw[C]at l1 l2 l3 l4 l5 l6;rw[C,C,C,C,C,C]at B;exact B.fin λw e=>hR w e ⟨X,O,O,O,O,O,O⟩
  ·rintro(b:List (Int×Bk)) n (x:Bk) w1 w2 J1 ⟨z,B,hn,hin,hz0,hz⟩ N ho U hJ1;have hsb:=B0.s.lt;have hnb:=B0.n.lt;have hz2:=ho.1;have hlm:L.lm<σ.size:=h.liveM.lt;have B2:=B.own ho (.inr ⟨O,O,O⟩);have hl:=hin _ N;have hdel:=Wfg sz0 hn N;have K:∀y∈b.filter λy=>!(y.1==n),y∈H.live:=λy hy=>hin y (zH.1 hy).1;have hn':((b.filter λy=>!(y.1==n)).map (·.1)).Nodup:=hn.sublist (List.filter_sublist.map _);have aa:=(U9 (f:=λe:Int×Bk=>sz0 e.2) (c:=270000) λe he=>WiR hi (K e he)).1;have hall:=(U9 (l:=H.live) (f:=λe:Int×Bk=>sz0 e.2) (c:=270000) λe he=>WiR hi he).2;have hst:(H.live.map λe:Int×Bk=>sz0 e.2).sum=HM H.live:=rfl;have hx0:=WiR hi hl;rw[hst]at hall;obtain⟨rs,Z⟩:∃rs,((b.filter λy=>!(y.1==n)).map λe:Int×Bk=>sz0 e.2).sum=rs:=⟨_,rfl⟩;have hdel':(b.map λe:Int×Bk=>sz0 e.2).sum=sz0 x+rs:=by rw[←Z];exact hdel
   have hz':z+(b.map λe:Int×Bk=>sz0 e.2).sum=HM H.live:=hz;rw[Z]at aa;have W:∀y:Int,y+rs=HM H.live->y+((b.filter λy=>!(y.1==n)).map λe:Int×Bk=>sz0 e.2).sum=HM H.live:=λy hy=>by rw[Z];exact hy
   refine nw (cs:=[.int .i64 0,.int .i64 0,.int .i64 0,.int .i64 0]) λv2 hzv e2 b2=>b2.s1 aA λv3 o3 b3=>b3.s1 aA λv4 o4 b4=>b4.s1 aA λv5 o5 b5=>b5.s1 aA λv6 o6 b6=>?_;have e6:Ext0 w2 v6:=Ext.fresh (Ext.fresh (Ext.fresh (Ext.fresh e2 o3.ext λi hi=>O) o4.ext λi hi=>O) o5.ext λi hi=>O) o6.ext λi hi=>by omega
   have B6:=B2.fr e6;refine b6.rI rfl (ifD (λhpos=>B6.rd rfl (b6.rI rfl ?_)) λhneg=>?_)
   ·have hs:sz0 x=x.2.1:=by unfold sz0;exact zB hpos
    have hx1:0<=x.2.1/\x.2.1<=270000:=by rw[←hs];exact hx0
    refine ar O O (B6.st O λv7 e7 B7=>hJ1 v7 ?_ ?_ ⟨z+x.2.1,B7,hn',K,O,W _ O⟩)
    ·rw[e7.2 _ (by have:=e6.1;omega) (λ(N:w.size=d)=>O),e6.2 _ O id]
    ·rw[e7.2 _ (by have:=e6.1;omega) (λ(N:L.lm=d)=>by have:=B6.h2;omega),e6.2 _ O id]
   ·have hs:sz0 x=0:=by unfold sz0;exact zA hneg
    refine hJ1 v6 (e6.2 _ O id) (e6.2 _ O id) ⟨z,B6,hn',K,hz0,W _ O⟩
 ·have hS:SpH3 v F L.hs H.sp:=hv.spS;have fin:∀w d,Ext0 v w->Blk w d V3->v.size<=d->St1 (Addr.add ⟨d,0,none⟩ 0) (.int .i64 0) w λv57=>St1 (Addr.add ⟨d,0,none⟩ 1) (.int .i64 0) v57 λv58=>St1 (Addr.add ⟨d,0,none⟩ 2) (.int .i64 0) v58 λv59=>St1 (Addr.add ⟨d,0,none⟩ 3) (.int .i64 0) v59 λv60=>
   St1 (Addr.add ⟨d,0,none⟩ 4) (.int .i64 0) v60 λv61=>St1 (Addr.add ⟨d,0,none⟩ 5) (.int .i64 0) v61 λv62=>St1 (Addr.add ⟨d,0,none⟩ 6) (.int .i64 0) v62 λv63=>St1 (Addr.add ⟨d,0,none⟩ 7) (.int .i64 0) v63 λv64=>
   St1 (Addr.add ⟨d,0,none⟩ 8) (.int .i64 0) v64 λv65=>St1 (Addr.add ⟨d,0,none⟩ 9) (.int .i64 M) v65 λv66=>St1 (Addr.add ⟨d,0,none⟩ 10) (.int .i64 D) v66 λv67=>J ⟨d,0,none⟩ v67:=λw d r bw hsb=>by
   have hv1:=hb.lt;refine st11 bw 0 0 0 0 0 0 0 0 0 M D λw' e' b'=>hJ _ w' ⟨d,rfl,Ext.fresh (e.trans r) e' (λi (hi:i=d)=>O),e'.blk (r.blk hb id) (λ(N:σ.size=d)=>O),b',zD _,O,O,rfl⟩
  refine⟨λm=>Ext0 v m,Ext.refl _ _,nilP (Blk.rH (c:=.p) (y:=some ⟨L.hs,0,none⟩) hv.hd rfl (nilP (Blk.rH (c:=.p) (y:=some ⟨L.hs,0,none⟩) hv.hd rfl ⟨?_,?_⟩)))⟩
  ·refine Wdx hS ⟨Ext.refl _ _,Wcs hS ⟨Ext.refl _ _,?_⟩,?_⟩
   ·rw[hm0,hd0];exact nw (cs:=V3) λw hzw r bw=>⟨r,fin w _ r bw (zD _)⟩
   ·refine nw (cs:=V3) λw hzw r bw=>⟨r,Wcs (hv.keep0 r).spS ⟨r,?_⟩⟩;rw[hm0,hd0];exact fin w _ r bw (zD _)
  ·refine nw (cs:=V3) λw hzw r bw=>⟨r,Wdx (hv.keep0 r).spS ⟨r,Wcs (hv.keep0 r).spS ⟨r,?_⟩⟩⟩;rw[hm0,hd0];exact fin w _ r bw (zD _)
end Go.Ar
namespace Go.Ar
open Go.Vc (mget mset mdel)
def i63 (x:Int):Bool:=decide (x<=9223372036854775807)
def Wbk (H:Hw)(t:Nat):Ph->Bool
 | .take k=>decide (k<H.tb.length)&&(match Ka (H.cls k) ((H.thr t).li k)with
  | (some y,_)=>i63 y
  | (none,_)=>true)
 | .transfer k _=>decide (k<H.tb.length)&&(Z6 (H.arn t) (k:Int) != 0 || !(YL (H.arn t) (k:Int)).isEmpty)
 | .central _ _=>true
 | .grow _ _=>true
 | .fill=>match (H.thr t).hands with
  | (k,x::xs)::_=>decide (k<H.tb.length)&&(i63 x&&decide (((H.thr t).li k).os.length+xs.length<=256))
  | _=>false
 | .large m=>decide (Z5 (H.arn t) H.sp (m:Int) 1<=1000000)
 | .find x=>i63 x&&((mget H.live x).isSome&&decide (0<=x))
 | .put k _=>decide (k<H.tb.length) && !(H.thr t).hands.isEmpty
 | .back=>match (H.thr t).hands with
  | (_,xs)::_=>(xs.all λx=>i63 x&&decide (0<=YJ H.ars x))&&decide (xs.length<=1000000)
  | _=>false
 | .give _ a=>decide (0<=a)&&(decide (a.toNat<H.ars.length)&&H.ars.all λA=>A.runs.all λr=>decide (r.1<=1000000))
 | .drain=>true
theorem Wfn {x:Int}(h:i63 x=true):I63 x:=by
 unfold i63 at h;unfold I63;exact zBZ h
theorem Wlt {H:Hw}{t:Nat}{p:Ph}(h:Wbk H t p=true):WgG H t p:=by
 cases p with
 | take k=>
  simp only[Wbk,zF,zT]at h;refine⟨h.1,λy l i=>?_⟩;have e:=h.2;rw[i]at e;exact Wfn e
 | transfer k w=>
  simp only[Wbk,zF,zT,zBL]at h;refine⟨h.1,λu d=>?_⟩;rw[u,d]at h;simp at h
 | central k w=>trivial
 | grow k w=>trivial
 | fill=>
  simp only[Wbk]at h;split at h
  ·rename_i k x xs r hh;simp only[zF,zT]at h;exact⟨k,x,xs,r,hh,h.1,Wfn h.2.1,h.2.2⟩
  ·cases h
 | large m=>
  simp only[Wbk,zT]at h;exact h
 | find x=>
  simp only[Wbk,zF,zT]at h;exact⟨Wfn h.1,λj=>by rw[j]at h;simp at h,λb _=>h.2.2⟩
 | put k x=>
  simp only[Wbk,zF,zT]at h;exact⟨h.1,λd=>by rw[d]at h;simp at h⟩
 | back=>
  simp only[Wbk]at h;split at h
  ·rename_i k xs r hh;simp only[zF,zT,zAA]at h;exact⟨k,xs,r,hh,λx g=>⟨Wfn (h.1 x g).1,(h.1 x g).2⟩,h.2⟩
  ·cases h
 | give s a=>
  simp only[Wbk,zF,zT,zAA]at h;exact⟨h.1,h.2.1,h.2.2⟩
 | drain=>trivial
def runB:Nat->Hw->Nat->Ph->Option (Hw×Int×Int)
 | 0,_,_,_=>none
 | n+1,H,t,p=>if Wbk H t p&&decide ((H.thr t).hands.length<=900)then(match (Wt H t p).2.1 with
  | none=>some (QU H t p,(Wt H t p).2.2.1,(Wt H t p).2.2.2)
  | some p'=>runB n (QU H t p) t p')else none
theorem Wh2:∀{n:Nat} {H:Hw} {t:Nat} {p:Ph} {r:Hw×Int×Int},runB n H t p=some r->∃m,RunN m H t p r.1 r.2.1 r.2.2
 | 0,_,_,_,_,h=>by simp[runB]at h
 | n+1,H,t,p,r,h=>by
  rw[runB]at h;split at h
  ·rename_i hc;simp only[zF,zT]at hc;have hok:WbE H t p:=⟨Wlt hc.1,λg a=>by rw[←GE a];exact hc.2⟩;split at h
   ·rename_i hn;cases h;exact⟨1,.done hok hn⟩
   ·rename_i p' hs;obtain⟨m,b⟩:=Wh2 h;exact⟨m+1,.next hok hs b⟩
  ·cases h
def Wfc (H:Hw)(thread kind size align addr:Int):Option (Hw×Int×Int):=match KH H thread kind size align addr with
 | .inl e=>if e=0 then none else some (H,0,e)
 | .inr (t,p)=>runB 40 (setPh H t (some p)) t p
theorem Wjv {H:Hw}{thread kind size align addr:Int}{r:Hw×Int×Int}(h:Wfc H thread kind size align addr=some r):Hb H thread kind size align addr r.1 r.2.1 r.2.2:=by
 unfold Wfc at h;split at h
 ·rename_i e he;split at h
  ·cases h
  ·rename_i hne;cases h;exact .inl ⟨he,hne,rfl,rfl⟩
 ·rename_i t p he;obtain⟨m,a⟩:=Wh2 h;exact .inr ⟨t,p,m,he,a⟩
def tb8:List Cls:=(WcL 8).map ZV
def w0:Hw:=Ud tb8 ⟨64,1,1,1024,2⟩
def nxt (H:Hw)(kind size addr:Int):Hw×Int×Int:=(Wfc H 0 kind size (if kind=0 then 8 else 0) addr).getD (H,0,99)
theorem Wov {H:Hw}{kind size addr:Int}(h:(nxt H kind size addr).2.2≠99):Hb H 0 kind size (if kind=0 then 8 else 0) addr (nxt H kind size addr).1 (nxt H kind size addr).2.1 (nxt H kind size addr).2.2:=by
 unfold nxt at *;cases hw:Wfc H 0 kind size (if kind=0 then 8 else 0) addr with
 | none=>rw[hw]at h;exact absurd rfl h
 | some r=>exact Wjv hw
theorem nxtW {H:Hw}{kind size addr al a e:Int}{N:Hw×Int×Int}(hN:N=nxt H kind size addr)(h:N.2=(a,e))(hne:e≠99)(hal:al=if kind=0 then 8 else 0):Hb H 0 kind size al addr N.1 a e:=by
 have b:=Wov (H:=H) (kind:=kind) (size:=size) (addr:=addr) (by rw[←hN,h];exact hne);rw[←hN,h,←hal]at b;exact b
theorem w0_e:Ud ((WcL 8).map ZV) ⟨(64:Int).toNat,(1:Int).toNat,(1:Int).toNat,(1024:Int).toNat,(2:Int).toNat⟩=w0:=rfl
end Go.Ar
namespace Go.Ar
open Go Go.Vc Go.Proofs
variable {σ u u':Hp}{F:Rg}{L:LayH}{H H':Hw}{N:Nat}
attribute [local irreducible] w0 nxt tb8
theorem Wk2 (g:Gl σ)(gd:Gd σ){R:Option Addr->Hp->Prop}(hR:∀σ' L N,Ext0 σ σ'->σ.size<=N->N<=σ'.size->HH σ' (λb=>N<=b) L w0->R (some ⟨L.p,0,none⟩) σ'):XJ.c σ R:=by
 refine XJ.o ?_;unfold XJ.v;refine Wu.o ?_;unfold Wu.v;refine nw (cs:=[.int .i64 8,.int .i64 64,.int .i64 1,.int .i64 1,.int .i64 1024,.int .i64 2]) λv A e r=>r.rI rfl ?_;refine Whk 8 aB aB λs w j y=>?_;have a:=j.blk r id;have d:=e.trans j;refine a.rI2 rfl (a.rI2 rfl (a.rI2 rfl (a.rI2 rfl (a.rI2 rfl ?_))));refine We4 y (g.keep0 d) (gd.keep0 d) 64 1 1 1024 2 (λu=>?_) (λ_ x=>?_) λ_ _ z L i m=>?_
 ·have:=HP 8 aB aB;rw[show((8:Nat):Int)=8 from rfl]at this;rw[this]at u;cases u
 ·exact absurd x aB
 ·rw[w0_e]at m;exact ifF rfl (hR z L w.size (d.trans i) d.1 i.1 m)
end Go.Ar
namespace Go.Proofs
open Go.Vc
set_option maxRecDepth 100000
def Qe.h:Hn:=.q .o2 (.q (.q .o3 .aJ) (.q (.q (.reg (.seq [.op,.op,.op,.grd false 2 [.op,.op],.op,.grd false 2 [.op,.op],.op,.grd false 2 [.op,.op],.op,.grd false 5 (RI.ops 5)])) .aJ) (.q .o9 (.q (.q .o2 (.c (.q .o9 .l) .l)) (.q .o10 (.q .o10 (.q (.oq 16) .l)))))))
def Qe.v (a:Sl)(b c:Int)(d:Hp)(e:Int->Int->Hp->Prop):Prop:=ZG.c a d λf g=>If (!f) (e 0 2 g) (JnB (λh i=>JnB (λj k=>JnB (λl m=>JnB (λn o=>If n (e 0 1 o) (Z1.c a b c o λp q r=>If (q != 0) (bL (b+256) λs=>bL (s-1) λt=>Nz 256<|bL (t.tdiv 256) λu=>bL (u*256) λv=>bL (v-b) λw=>e w 0 r) (Ix a.a a.len p 3 λx=>aQ x 0 r λy=>aQ x 1 r λz=>aQ x 2 r λaa=>Zd.c y z aa r λab ac ad=>Ix a.a a.len p 3 λae=>aQ ae 0 ad λaf=>aQ ae 1 ad λag=>aQ ae 2 ad λah=>Qo.c af ag ah ad λai aj ak=>Ix a.a a.len p 3 λal=>aQ al 0 ak λam=>bL (am-b) λan=>bL (ai+ab) λao=>bL (ao-1) λap=>Nz ab<|bL (ap.tdiv ab) λaq=>bL (an+aq) λar=>e ar 0 ak))) λau=>If l (au true m) (bL (c-1) λav=>au ((bits .and .i64 c av) != 0) m)) λaw=>If j (aw true k) (aw (decide (c>256)) k)) λax=>If h (ax true i) (ax (decide (c<1)) i)) λay=>If (b<1) (ay true g) (ay (decide (b>16384)) g))
theorem Qe.o {a b c d e}(f:Qe.v a b c d e):Qe.c a b c d e:=Wa Tryz.func14 (x:=Qe.h) (R0 f)
def QJ.h:Hn:=.q .o2 (.q (.q .o3 .aJ) (.q .o6 .l))
def QJ.v (a:R2)(b:Hp)(c:Option Addr->Int->Hp->Prop):Prop:=QA.c a b λd e=>If (!d) (c none 1 e) (Nw (.map #[] 0) e λf g=>aV #[.pointer a,.map (some f.block),.I 0,.I 0,.I 0,.I 0,.I 0,.I 0] 38 g λh i=>c (some h) 0 i)
theorem QJ.o {a b c}(d:QJ.v a b c):QJ.c a b c:=Wa Tryz.func19 (x:=QJ.h) (R0 d)
def Xx.h:Hn:=.q .o2 (.q (.q .o3 .aJ) (.q (.o 13) (.sjn [] (.q .o2 (.c (.q .o3 (.q .o7 .o9)) .l)) (.q .o6 (.q .o4 .l)))))
def Xx.v (a:R2)(b c d:Int)(e:Hp)(f:Int->Int->Hp->Prop):Prop:=Xu.c a e λg h=>If (!g) (f 0 5 h) (NilP a λi=>aY i 0 h λj=>Yj.c j b c d h λk l m=>Jn [] (λn=>NilP a λo=>XV.c a l (some (o.add 5)) n λp=>f k l p) λq=>If (l==0) (XD.c a k m λr=>bI a 1 r λt=>MSet .i64 bN t k c r λu=>bD a 2 u λw=>bL (w+c) λx=>NilP a λy=>aR y 2 (.I x) u λz=>q z) (q m))
theorem Xx.o {a b c d e f}(g:Xx.v a b c d e f):Xx.c a b c d e f:=Wa Tryz.func20 (x:=Xx.h) (R0 g)
def Y6.h:Hn:=.q .o1 (.q (.q .o3 .aK) (.q .o8 (.sjn [] (.q .o2 (.c .o3 .l)) (.q .o6 .aL))))
def Y6.v (a:R2)(b c:Int)(d:Hp)(e:aN):Prop:=Xu.c a d λf g=>If (!f) (e 5 g) (bF a 0 g λi=>Zq.c i b c g λj k=>Jn [] (λl=>NilP a λm=>XV.c a j (some (m.add 6)) l λn=>e j n) λo=>If (j==0) (XD.c a c k λp=>o p) (o k))
theorem Y6.o {a b c d e}(f:Y6.v a b c d e):Y6.c a b c d e:=Wa Tryz.func23 (x:=Y6.h) (R0 f)
def W6.h:Hn:=.q .o1 (.q (.q .o3 .aJ) (.q .o7 (.q (.reg (.held true [47] (.tk [0,1,2,3,4,5,6,7,10,11,12,13,14,15,16,17,18,19,20,21,22,23,24,25,26,27,28,29,30,31,32,33,34,35,36,37,38,39,40,41,42,43,44,45] (.all [(8,.all [(9,.take 46 (.all [(47,.done)]))])])))) .l)))
def W6.v (a:R2)(b:Hp)(c:Int->Int->Int->Int->Int->Int->Int->Int->Int->Int->Hp->Prop):Prop:=aV #[.I 0,.I 0,.I 0,.I 0,.I 0,.I 0,.I 0,.I 0,.I 0,.I 0] 56 b λd e=>Xu.c a e λf g=>If (!f) (aR d 0 (.I 0) g λh=>aR d 1 (.I 0) h λi=>aR d 2 (.I 0) i λj=>aR d 3 (.I 0) j λk=>aR d 4 (.I 0) k λl=>aR d 5 (.I 0) l λm=>aR d 6 (.I 0) m λn=>aR d 7 (.I 0) n λo=>aR d 8 (.I 0) o λp=>aR d 9 (.I 0) p λq=>aQ d 0 q λr=>aQ d 1 q λs=>aQ d 2 q λt=>aQ d 3 q λu=>aQ d 4 q λv=>aQ d 5 q λw=>aQ d 6 q λx=>aQ d 7 q λy=>aQ d 8 q λz=>aQ d 9 q λaa=>c r s t u v w x y z aa q) (bF a 0 g λac=>XB.c ac g λad ae af ag ah ai aj ak al am an ao=>aV #[.I 0,.I 0,.I 0,.I 0,.I 0,.I 0,.I 0,.I 0,.I 0,.I 0,.I 0] 89 ao λap aq=>aR ap 0 (.I ad) aq λar=>aR ap 1 (.I ae) ar λau=>aR ap 2 (.I af) au λav=>aR ap 3 (.I ag) av λaw=>aR ap 4 (.I ah) aw λax=>aR ap 5 (.I ai) ax λay=>aR ap 6 (.I aj) ay λaz=>aR ap 7 (.I ak) az λa0=>aR ap 8 (.I al) a0 λa1=>aR ap 9 (.I am) a1 λa2=>aR ap 10 (.I an) a2 λa3=>Held a3 λa4=>NilP a λa5=>aS a4 a5 2 λa6=>NilP a λa7=>aU a4 a7 0 λa8=>aS a4 ap 1 λa9=>aS a4 ap 2 λba=>bL (a9+ba) λbb=>
 aS a4 ap 3 λbc=>bL (bb+bc) λbd=>aS a4 ap 4 λbe=>bL (bd+be) λbf=>aS a4 ap 5 λbg=>aS a4 ap 8 λbh=>bL (bh*256) λbi=>NilP a λbj=>aS a4 bj 3 λbk=>NilP a λbl=>aS a4 bl 4 λbm=>NilP a λbn=>aS a4 bn 5 λbo=>NilP a λbp=>aS a4 bp 6 λbq=>NilP a λbr=>aS a4 br 7 λbs=>Zp.c a8 a3 λbt bu=>And (a4 bu) <| Xd.c bt ⟨60,#[],#[]⟩ bu λbv bw=>And (a4 bw) <| aR d 0 (.I a6) bw λbx=>aR d 1 (.I bv) bx λbz=>aR d 2 (.I bf) bz λb0=>aR d 3 (.I bg) b0 λb1=>aR d 4 (.I bi) b1 λb2=>aR d 5 (.I bk) b2 λb3=>aR d 6 (.I bm) b3 λb4=>aR d 7 (.I bo) b4 λb5=>aR d 8 (.I bq) b5 λb6=>aR d 9 (.I bs) b6 λb7=>aQ d 0 b7 λb8=>aQ d 1 b7 λb9=>aQ d 2 b7 λca=>aQ d 3 b7 λcb=>aQ d 4 b7 λcc=>aQ d 5 b7 λcd=>aQ d 6 b7 λce=>aQ d 7 b7 λcf=>aQ d 8 b7 λcg=>aQ d 9 b7 λch=>c b8 b9 ca cb cc cd ce cf cg ch b7)
theorem W6.o {a b c}(d:W6.v a b c):W6.c a b c:=Wa Tryz.func24 (x:=W6.h) (R0 d)
def YE.h:Hn:=.q .o1 (.q (.q .o3 .aK) (.q .o6 (.q .o2 (.q (.q .o7 (.k (.loop [(29,.I)] (.q .o1 (.q (.c .l .l) (.q (.k (.q .o4 (.q .o6 (.q .o4 (.q .o5 (.q .o7 (.q (.reg (.tail 11 (RI.ops 11) [.op])) .o5))))))) .o2)))))) (.q .o1 (.q (.q .o1 (.k (.loop [(8,.one .s),(9,.I)] (.q (.q .o4 (.c .l .l)) (.q (.k (.q .o9 (.q (.q .o2 (.c .l .l)) (.sjn [] (.q .o2 (.c (.q .o10 (.reg (.held true [13,15] (.tk [0,1,2,3,4,5,6,7,8,9,10,11,12] (.all [(13,.take 14 (.all [(15,.done)]))]))))) .l)) .o5)))) .o3))))) .aL))))))
def YE.v (a:R2)(b:Hp)(c:Sl->Hp->Prop):Prop:=Xu.c a b λd e=>If (!d) (c ⟨none,0,0⟩ e) (bF a 0 e λg=>YT.c g e λh i=>Nw (.map #[] 0) i λj k=>bF a 0 k λm=>Zp.c m k λn o=>W8 [bN] (λp=>p 0 o) λq (r:Int) s=>If (r<((n.len:Nat):Int)) (Ix n.a n.len r 4 λt=>aQ t 0 s λu=>aQ t 1 s λv=>aQ t 2 s λw=>aQ t 3 s λx=>aV #[.I 0,.I 0,.I 0,.I 0] 76 s λy z=>aR y 0 (.I u) z λaa=>aR y 1 (.I v) aa λab=>aR y 2 (.I w) ab λac=>aR y 3 (.I x) ac λad=>aQ y 2 ad λae=>Lk .i64 (.ag 6) (some j.block) ae ad λaf=>aV #[.I 0,.I 0,.I 0,.I 0,.I 0,.I 0] 80 ad λag ah=>aR ag 0 (.I ((af.getD (0,0,0,0,0,0)).1)) ah λai=>aR ag 1 (.I ((af.getD (0,0,0,0,0,0)).2.1)) ai λaj=>aR ag 2 (.I ((af.getD (0,0,0,0,0,0)).2.2.1)) aj λak=>aR ag 3 (.I ((af.getD (0,0,0,0,0,0)).2.2.2.1)) ak λal=>aR ag 4 (.I ((af.getD (0,0,0,0,0,0)).2.2.2.2.1)) al λam=>aR ag 5 (.I ((af.getD (0,0,0,0,0,0)).2.2.2.2.2)) am λan=>aQ y 2 an λao=>aR ag 0 (.I ao) an λap=>aQ ag 2 ap λaq=>bL (aq+1) λar=>aR ag 2 (.I ar) ap λau=>aQ ag 3 au λav=>aQ y 1 au λaw=>bL (av+aw) λax=>aR ag 3 (.I ax) au λay=>aQ ag 4 ay λaz=>bI a 1 ay λa1=>aQ y 0 ay λa2=>Lk .i64 bN a1 a2 ay λa3=>bL (az+(a3.getD 0)) λa4=>
 aR ag 4 (.I a4) ay λa5=>aQ y 2 a5 λa6=>aQ ag 0 a5 λa7=>aQ ag 1 a5 λa8=>aQ ag 2 a5 λa9=>aQ ag 3 a5 λba=>aQ ag 4 a5 λbb=>aQ ag 5 a5 λbc=>MSet .i64 (.ag 6) (some j.block) a6 (a7,a8,a9,ba,bb,bc) a5 λbd=>bL (r+1) λbe=>q be bd) (W8 [.s,bN] (λbf=>bf ⟨none,0,0⟩ (-1) s) λbg (bh:Sl) (bi:Int) bj=>If (bi<((h.len:Nat):Int)) (Lk .i64 (.ag 6) (some j.block) bi bj λbk=>aV #[.I 0,.I 0,.I 0,.I 0,.I 0,.I 0] 80 bj λbl bm=>aR bl 0 (.I ((bk.getD (0,0,0,0,0,0)).1)) bm λbn=>aR bl 1 (.I ((bk.getD (0,0,0,0,0,0)).2.1)) bn λbo=>aR bl 2 (.I ((bk.getD (0,0,0,0,0,0)).2.2.1)) bo λbp=>aR bl 3 (.I ((bk.getD (0,0,0,0,0,0)).2.2.2.1)) bp λbq=>aR bl 4 (.I ((bk.getD (0,0,0,0,0,0)).2.2.2.2.1)) bq λbr=>aR bl 5 (.I ((bk.getD (0,0,0,0,0,0)).2.2.2.2.2)) br λbs=>If (!bk.isSome) (bL (bi+1) λbt=>bg bh bt bs) (Jn [] (λbu=>aQ bl 0 bu λbv=>aQ bl 1 bu λbw=>aQ bl 2 bu λbx=>aQ bl 3 bu λbz=>aQ bl 4 bu λb0=>aQ bl 5 bu λb1=>aV #[.I bv,.I bw,.I bx,.I bz,.I b0,.I b1] 80 bu λb2 b3=>App bh 6 48 80 [.I 0,.I 0,.I 0,.I 0,.I 0,.I 0] ⟨some b2,1,1⟩ b3 λb4 b5=>bL (bi+1) λb6=>bg b4 b6 b5) λb7=>If (bi≥0) (Ix h.a h.len bi 3 λb8=>aQ b8 0 bs λb9=>aQ b8 1 bs λca=>aQ b8 2 bs λcb=>Zd.c b9 ca cb bs λcc cd ce=>Held ce λcf=>
 Ix h.a h.len bi 3 λcg=>aS cf cg 0 λch=>aS cf bl 2 λci=>bL (ci+cc) λcj=>bL (cj-1) λck=>Nz cc<|bL (ck.tdiv cc) λcl=>aR bl 1 (.I ch) ce λcm=>aR bl 5 (.I cl) cm λcn=>b7 cn) (b7 bs))) (c bh bj)))
theorem YE.o {a b c}(d:YE.v a b c):YE.c a b c:=Wa Tryz.func25 (x:=YE.h) (R0 d)
def QA.h:Hn:=.q .o1 (.q (.reg (.seq [.op,.op,.op,.grd true 4 (RI.ops 4),.op])) .l)
def QA.v (a:R2)(b:Hp)(c:aO):Prop:=JnB (λd e=>c d e) λf=>If (!a.isNone) (Y5.c a b λg h i j k l=>f (decide (g>0)) l) (f false b)
theorem QA.o {a b c}(d:QA.v a b c):QA.c a b c:=Wa Tryz.func50 (x:=QA.h) (R0 d)
def Xu.h:Hn:=.q .o1 (.q (.reg (.seq [.op,.op,.op,.grd true 5 (RI.ops 5),.op])) .l)
def Xu.v (a:R2)(b:Hp)(c:aO):Prop:=JnB (λd e=>c d e) λf=>If (!a.isNone) (bF a 0 b λh=>f (!h.isNone) b) (f false b)
theorem Xu.o {a b c}(d:Xu.v a b c):Xu.c a b c:=Wa Tryz.func51 (x:=Xu.h) (R0 d)
def XD.h:Hn:=.q (.reg (.tail 13 (RI.ops 13) [.op])) .o6
def XD.v (a:R2)(b:Int)(c:Hp)(d:aP):Prop:=bD a 2 c λf=>bI a 1 c λh=>Lk .i64 bN h b c λi=>bL (f-(i.getD 0)) λj=>NilP a λk=>aR k 2 (.I j) c λl=>bI a 1 l λn=>MDel .i64 bN n b l λo=>d o
theorem XD.o {a b c d}(e:XD.v a b c d):XD.c a b c d:=Wa Tryz.func53 (x:=XD.h) (R0 e)
def XV.h:Hn:=.sjn [] (.q .o2 (.c .o6 .o8)) (.q (.reg (.tail 12 (RI.ops 12) [.op])) (.reg (.held true [15] (.tk [0,1,2,3,4,5,6,7,8] (.all [(9,.tk [10,11,12,13,14] (.all [(15,.done)]))])))))
def XV.v (a:R2)(b:Int)(c:R2)(d:Hp)(e:aP):Prop:=Jn [] (λf=>bD a 3 f λh=>bD a 2 f λj=>NilP a λk=>aR k 3 (.I (if j>h then j else h)) f λl=>Held l λm=>NilP a λn=>aS m n 4 λo=>NilP a λp=>aU m p 0 λq=>XB.c q l λr s t u v w x y z aa ab ac=>And (m ac) <| bL (ab*256) λad=>NilP a λae=>aR ae 4 (.I (if ad>o then ad else o)) ac λaf=>e af) λag=>If (b==0) (NilP c λah=>bM ah d λai=>bL (ai+1) λaj=>NilP c λak=>St1 ak (.I aj) d λal=>ag al) (bD a 7 d λan=>bL (an+1) λao=>NilP a λap=>aR ap 7 (.I ao) d λaq=>ag aq)
theorem XV.o {a b c d e}(f:XV.v a b c d e):XV.c a b c d e:=Wa Tryz.func54 (x:=XV.h) (R0 f)
def Xd.h:Hn:=.q .o1 (.q .o1 (.q (.q .o3 (.k (.loop [(5,.I),(10,.I)] (.q .o1 (.q (.c .l .l) (.q (.k (.q .o4 .o6)) .o2)))))) .aL))
def Xd.v (a:Sl)(b:Fv)(c:Hp)(d:aN):Prop:=W8 [bN,bN] (λe=>e 0 0 c) λf (g:Int) (h:Int) i=>If (h<((a.len:Nat):Int)) (Ix a.a a.len h 4 λj=>aQ j 0 i λk=>aQ j 1 i λl=>aQ j 2 i λm=>aQ j 3 i λn=>aV #[.I 0,.I 0,.I 0,.I 0] 76 i λo p=>aR o 0 (.I k) p λq=>aR o 1 (.I l) q λr=>aR o 2 (.I m) r λs=>aR o 3 (.I n) s λt=>aQ o 0 t λu=>aQ o 1 t λv=>aQ o 2 t λw=>aQ o 3 t λx=>VK Tryz.prog b [.agg #[.I u,.I v,.I w,.I x]] [.I] t λy z=>bL (g+y) λaa=>bL (h+1) λab=>f aa ab z) (d g i)
theorem Xd.o {a b c d}(e:Xd.v a b c d):Xd.c a b c d:=Wa Tryz.func59 (x:=Xd.h) (R0 e)
def XK.h:Hn:=.q .o2 (.q .o3 .l)
def XK.v (a b c d:Int)(e:Hp)(f:aN):Prop:=aV #[.I a,.I b,.I c,.I d] 76 e λg h=>aQ g 1 h λi=>f i h
theorem XK.o {a b c d e f}(g:XK.v a b c d e f):XK.c a b c d e f:=Wa Tryz.func60 (x:=XK.h) (R0 g)
end Go.Proofs
namespace Go.Ar
open Go Go.Vc Go.Proofs
open Go.Vc (mget mset mdel)
open Go.Bu (cnt)
variable {σ σ0 v w w':Hp}{F P Q X T:Rg}{L:LayH}{H H':Hw}{held:List Pc}{s0:Sp}{t n:Nat}{g:Th}{mb am m:Nat}
structure Me where
 asked:List (Int×Int)
 sum:Int
 peak:Int
 dirty:Int
 mallocs:Nat
 frees:Nat
 fails:Nat
def Me.calls (x:Me):Nat:=x.mallocs+x.frees+x.fails
structure MeI (x:Me):Prop where
 v:∀y∈x.asked,0<=y.2/\y.2<=16384
 l:x.asked.length<=x.mallocs
 s:x.sum=(x.asked.map (·.2)).sum
 p:0<=x.peak/\x.peak<=16384000
 d:0<=x.dirty/\x.dirty<=1000000
 c:x.calls<=900
def me0:Me:=⟨[],0,0,0,0,0,0⟩
theorem WmM:MeI me0:=⟨by simp[me0],by simp[me0],rfl,by simp[me0],by simp[me0],by simp[me0,Me.calls]⟩
def Me.forget (x:Me)(a:Int):Me:={x with asked:=mdel x.asked a,sum:=x.sum-(mget x.asked a).getD 0}
def Me.add (x:Me)(a size:Int):Me:={x with asked:=mset x.asked a size,sum:=x.sum+size}
def Me.count (x:Me)(e:Int)(mal:Bool):Me:=if e=0 then(if mal then{x with mallocs:=x.mallocs+1}else{x with frees:=x.frees+1})else{x with fails:=x.fails+1}
def Me.tops (x:Me)(D:Int):Me:={x with peak:=if x.sum>x.peak then x.sum else x.peak,dirty:=if D*256>x.dirty then D*256 else x.dirty}
theorem MeI.sum_le {x:Me}(h:MeI x):0<=x.sum/\x.sum<=14745600:=by
 have a:=U9 (l:=x.asked) (f:=λy:Int×Int=>y.2) (c:=16384) h.v;have d:=h.l;have b:=h.c;unfold Me.calls at b;rw[h.s];exact⟨a.1,by have:=a.2;omega⟩
def meV (hp am:Nat)(x:Me):List Value:=[.pointer (some ⟨hp,0,none⟩),.map (some am),.int .i64 x.sum,.int .i64 x.peak,.int .i64 x.dirty,.int .i64 (x.mallocs:Int),.int .i64 (x.frees:Int),.int .i64 (x.fails:Int)]
structure MP (σ0 σ:Hp) (L:LayH) (H:Hw) (held:List Pc) (s0:Sp) (P:Rg) (mb am:Nat) (x:Me):Prop where
 e:Ext0 σ0 σ
 h:HH σ P L H
 hi:HI H held s0
 cf:CfOk H
 ph:∀g∈H.ths,g.ph=none
 pg:H.cf.pages<=128
 pP:∀b,P b->σ0.size<=b/\b<σ.size
 mb1:σ0.size<=mb/\¬P mb
 am1:σ0.size<=am/\¬P am
 ne:mb≠am
 b:Blk σ mb (meV L.p am x)
 m:MapL σ am .i64 bN x.asked
 g0:Off (λb=>σ0.size<=b)/\¬σ0.size<=1
variable {x y:Me}
theorem MP.fr (p:MP σ0 σ L H held s0 P mb am x)(e:Ext0 σ w):MP σ0 w L H held s0 P mb am x:=
 ⟨p.e.trans e,p.h.keep0 e,p.hi,p.cf,p.ph,p.pg,λb a=>⟨(p.pP b a).1,by have:=(p.pP b a).2;have:=e.1;omega⟩,p.mb1,p.am1,p.ne,e.blk p.b id,e.mapL p.m id,p.g0⟩
theorem MP.out (p:MP σ0 σ L H held s0 P mb am x)(e:Ext T σ w)(hT:∀b,b<σ.size->T b->¬P b/\b≠mb/\b≠am/\σ0.size<=b):MP σ0 w L H held s0 P mb am x:=by
 have s:=e.1;have a:=p.b.lt;have i:=p.m.lt;have g:Ext (λb=>T b/\b<σ.size) σ w:=⟨e.1,λb a j=>e.2 b a λd=>j ⟨d,a⟩⟩;refine⟨Ext.newT p.e g λb a=>.inr (hT b a.2 a.1).2.2.2,p.h.keep g (λb a r d=>(hT b a d.1).1 r) (λb a=>?_) (λa=>?_),p.hi,p.cf,p.ph,p.pg,λb a=>⟨(p.pP b a).1,by have:=(p.pP b a).2;omega⟩,p.mb1,p.am1,p.ne,e.blk p.b λd=>(hT mb a d).2.1 rfl,e.mapL p.m λd=>(hT am i d).2.2.1 rfl,p.g0⟩
 ·exact p.g0.1 b (hT b a.2 a.1).2.2.2
 ·exact p.g0.2 (hT _ a.2 a.1).2.2.2
theorem MP.step (p:MP σ0 σ L H held s0 P mb am x){ts':List LayT}(e:Ext P σ w)(h':HH w (Grow P σ) {L with ts:=ts'} H'){held':List Pc}{s0':Sp}(hi':HI H' held' s0')(k:Z9 H' H)(ph':∀g∈H'.ths,g.ph=none) :
 MP σ0 w {L with ts:=ts'} H' held' s0' (Cut (Grow P σ) w) mb am x:=by
 have u:=e.1;have a:=p.b.lt;have r:=p.m.lt;have i:∀b,b<σ.size->¬P b->¬Cut (Grow P σ) w b:=λb d j s=>by
  rcases s.1 with h3|h3
  ·exact j h3
  ·omega
 refine⟨Ext.newT p.e e λb a=>.inr (p.pP b a).1,h'.cut,hi',p.cf.keep k,ph',by rw[k.2.1];exact p.pg,λb a=>⟨?_,a.2⟩,⟨p.mb1.1,i mb a p.mb1.2⟩,⟨p.am1.1,i am r p.am1.2⟩,p.ne,e.blk p.b p.mb1.2,e.mapL p.m p.am1.2,p.g0⟩;have:=p.e.1;rcases a.1 with d|d
 ·exact(p.pP b d).1
 ·omega
theorem MP.upd (p:MP σ0 σ L H held s0 P mb am x)(e:Ext (λb=>b=mb\/b=am) σ w)(hb:Blk w mb (meV L.p am y))(hm:MapL w am .i64 bN y.asked):MP σ0 w L H held s0 P mb am y:=by
 have j:=e.1;have a:∀b,(b=mb\/b=am)->σ0.size<=b/\¬P b:=λb hb=>by
  rcases hb with rfl|rfl
  ·exact p.mb1
  ·exact p.am1
 exact⟨Ext.newT p.e e λb hb=>.inr (a b hb).1,p.h.keep e (λb _ g d=>(a b d).2 g) (λb hb=>p.g0.1 b (a b hb).1) (λhb=>p.g0.2 (a _ hb).1),p.hi,p.cf,p.ph,p.pg,λb hb=>⟨(p.pP b hb).1,by have:=(p.pP b hb).2;omega⟩,p.mb1,p.am1,p.ne,hb,hm,p.g0⟩
theorem MP.st (p:MP σ0 σ L H held s0 P mb am x){i:Nat}{u:Value}(hi:i<8)(y:Me)(he:(meV L.p am x).set i u=meV L.p am y)(ha:y.asked=x.asked){K:aP}(hK:∀w,Ext (λb=>b=mb\/b=am) σ w->MP σ0 w L H held s0 P mb am y->K w):St1 (Addr.add ⟨mb,0,none⟩ i) u σ K:=by
 refine p.b.s1 (by simp[meV];omega) λw o b=>?_;have e:Ext (λb=>b=mb\/b=am) σ w:=o.ext.sub λb d=>.inl d;rw[zG,he]at b;exact hK w e (p.upd e b (by rw[ha];exact o.ext.mapL p.m λ(a:am=mb)=>p.ne a.symm))
theorem MP.hands (p:MP σ0 σ L H held s0 P mb am x):∀g∈H.ths,g.hands=[]:=λg b=>by
 have a:=(p.hi.th g b).ph;unfold PhI at a;rw[p.ph g b]at a;exact a
theorem Wae (p:MP σ0 σ L H held s0 P mb am x){R:aO}(hR:R true σ):Xu.c (aW mb) σ R:=by
 refine Xu.o ?_;unfold Xu.v;exact JnB.intro (ifT rfl (nilP (p.b.rP rfl hR)))
theorem WdL (p:MP σ0 σ L H held s0 P mb am x)(mi:MeI x)(a:Int){R:aP}(hR:∀w,Ext (λb=>b=mb\/b=am) σ w->MP σ0 w L H held s0 P mb am (x.forget a)->R w):XD.c (aW mb) a σ R:=by
 refine XD.o ?_;unfold XD.v;have y:=mi.sum_le;have u:0<=(mget x.asked a).getD 0/\(mget x.asked a).getD 0<=16384:=by
  cases hm:mget x.asked a with
  | none=>exact⟨zCH _,by decide⟩
  | some z=>exact mi.v _ (KU hm)
 refine nilP (p.b.rI rfl (nilP (p.b.rM rfl ⟨x.asked,p.m,ar O O (nilP ?_)⟩)));refine p.st O {x with sum:=x.sum-(mget x.asked a).getD 0} rfl rfl λr g d=>nilP (d.b.rM rfl ⟨x.asked,d.m,λw2 o2 _ i=>?_⟩);have o2:=o2 am rfl;have e:Ext (λb=>b=mb\/b=am) r w2:=o2.ext.sub λb j=>.inr j;exact hR w2 (g.trans e) (d.upd e (o2.ext.blk d.b λ(s:mb=am)=>p.ne s) i)
set_option maxRecDepth 8000 in
theorem Wfm (p:MP σ0 σ L H held s0 P mb am x)(hc:x.calls<=899)(e:Int)(mal:Bool){R:aP}(hR:∀w,Ext (λb=>b=mb\/b=am) σ w->MP σ0 w L H held s0 P mb am ((x.count e mal).tops (H.sp.st.count 2:Nat))->R w) :
 XV.c (aW mb) e (some (Addr.add ⟨mb,0,none⟩ (if mal then 5 else 6))) σ R:=by
 refine XV.o ?_;unfold XV.v;unfold Me.calls at hc;refine Wbo (λw=>Ext (λb=>b=mb\/b=am) σ w/\MP σ0 w L H held s0 P mb am (x.count e mal)) (λw ⟨j,d⟩=>?_) λJ u=>?_
 ·generalize hy:x.count e mal=y at d;have G:y.sum=x.sum/\y.peak=x.peak/\y.dirty=x.dirty:=by subst hy;unfold Me.count;split<;>(try split)<;>exact⟨rfl,rfl,rfl⟩
  refine nilP (d.b.rI rfl (nilP (d.b.rI rfl (nilP (d.st O {y with peak:=if y.sum>y.peak then y.sum else y.peak} rfl rfl λK B r=>?_)))))
  refine⟨λm=>Ext0 K m,Ext.refl _ _,nilP (Blk.rH (c:=bN) (y:=y.dirty) r.b rfl (nilP (Blk.rH (c:=.p) (y:=some ⟨L.p,0,none⟩) r.b rfl (WaR r.h r.hi r.hands λS A _=>⟨A,?_⟩))))⟩;have F:=r.fr A;have D:H.sp.st.count 2<=128:=by
   have Q:=zEG (a:=2) (l:=H.sp.st);have N:=p.hi.sl;have U:=p.pg;omega
  refine ar O O (nilP (F.st O (y.tops (H.sp.st.count 2:Nat)) rfl rfl λM E C=>?_));exact hR M (((j.trans B).trans (Ext0.to A)).trans E) (by rw[hy];exact C)
 ·refine ifD (λz=>?_) λz=>?_
  ·have g:e=0:=by simpa using z
   subst g;cases mal with
   | true=>exact nilP (p.b.rI rfl (arN (m:=x.mallocs+1) aA O (nilP (p.st (i:=5) O {x with mallocs:=x.mallocs+1} rfl rfl λs j d=>u s ⟨j,d⟩))))
   | false=>exact nilP (p.b.rI rfl (arN (m:=x.frees+1) aA O (nilP (p.st (i:=6) O {x with frees:=x.frees+1} rfl rfl λs j d=>u s ⟨j,d⟩))))
  ·have g:e≠0:=by simpa using z
   refine nilP (p.b.rI rfl (arN (m:=x.fails+1) aA O (nilP (p.st O {x with fails:=x.fails+1} rfl rfl λs j d=>u s ⟨j,?_⟩))));have:x.count e mal = {x with fails:=x.fails+1}:=by unfold Me.count;exact zA g
   rw[this];exact d
theorem OpOk.rest (o:OpOk H H')(h:∀g∈H.ths,g.ph=none):∀g∈H'.ths,g.ph=none:=λg b=>by
 obtain⟨j,d⟩:=zN b;have a:=o.ph j;unfold phAt at a;rw[d]at a;simp only[zFH]at a;rw[a];cases hk:H.ths[j]? with
 | none=>rfl
 | some g'=>exact h g' (zE hk)
def Me.mal (x:Me)(a size e:Int)(D:Nat):Me:=((if e=0 then(x.forget a).add a size else x).count e true).tops (D:Int)
def Me.fre (x:Me)(a e:Int)(D:Nat):Me:=((if e=0 then x.forget a else x).count e false).tops (D:Int)
def Md (P:Rg)(mb am:Nat):Rg:=λb=>P b\/b=mb\/b=am
set_option maxRecDepth 8000 in
theorem WbO (p:MP σ0 σ L H held s0 P mb am x)(mi:MeI x)(hc:x.calls<=899)(thread size align:Int){R:Int->Int->Hp->Prop}
 (hR:∀a e w ts H' held' s0' P',Ext (Md P mb am) σ w->MP σ0 w {L with ts:=ts} H' held' s0' P' mb am (x.mal a size e (H'.sp.st.count 2))->(∀b,P' b->P b\/σ.size<=b)->Z9 H' H->MalE H size align H' a e->Hb H thread 0 size align 0 H' a e->R a e w) :
 Xx.c (aW mb) thread size align σ R:=by
 refine Xx.o ?_;unfold Xx.v;refine Wae p (ifF rfl (nilP (p.b.rP rfl ?_)));obtain⟨H',a,r,S,o,M⟩:=Wjz p.hi thread size align;refine WgL Wm6 p.h p.cf.2.2 S λv1 i N K=>?_;obtain⟨held',s0',E⟩:=o.hi;have Q:=p.step N K E o.kp (o.rest p.ph);have G:∀b,Cut (Grow P σ) v1 b->P b\/σ.size<=b:=λb g=>g.1;have s:Ext (Md P mb am) σ v1:=N.sub λb g=>.inl g;have y:∀{u u':Hp},Ext (λb=>b=mb\/b=am) u u'->Ext (Md P mb am) u u':=λe=>e.sub λb g=>.inr g;refine Wbo (λw=>Ext (Md P mb am) σ w/\MP σ0 w {L with ts:=i} H' held' s0' (Cut (Grow P σ) v1) mb am (if r=0 then(x.forget a).add a size else x)) (λw ⟨D,j⟩=>?_) λJ A=>?_
 ·refine nilP (Wfm j ?_ r true λw3 C B=>hR a r w3 i H' held' s0' _ (D.trans (y C)) B G o.kp M S);split<;>exact hc
 ·refine ifD (λF=>?_) λF=>?_
  ·have d:r=0:=by simpa using F
   have X:1<=size/\size<=16384:=by
    rcases M with⟨K,_⟩|⟨_,_,h2,_⟩
    ·exact absurd d K
    ·exact⟨h2.1,h2.2.1⟩
   rw[zB d]at A;have hs:=mi.sum_le;have hv:0<=(mget x.asked a).getD 0/\(mget x.asked a).getD 0<=16384:=by
    cases hm:mget x.asked a with
    | none=>exact⟨zCH _,by decide⟩
    | some z=>exact mi.v _ (KU hm)
   refine WdL Q mi a λW D j=>nilP (j.b.rM rfl ⟨am,_,rfl,j.m,λw3 o3 m3=>?_⟩);have C:Ext (λb=>b=mb\/b=am) W w3:=o3.ext.sub λb g=>.inr g;have B:MP σ0 w3 {L with ts:=i} H' held' s0' (Cut (Grow P σ) v1) mb am ⟨mset (mdel x.asked a) a size,x.sum-(mget x.asked a).getD 0,x.peak,x.dirty,x.mallocs,x.frees,x.fails⟩:=j.upd C (o3.ext.blk j.b λ(hx:mb=am)=>p.ne hx) m3;have Z:(x.forget a).sum=x.sum-(mget x.asked a).getD 0:=rfl;refine nilP (B.b.rI rfl (ar aC aC (nilP (B.st O ((x.forget a).add a size) rfl rfl λY V U=>A Y ⟨((s.trans (y D)).trans (y C)).trans (y V),U⟩))))
  ·have d:r≠0:=by simpa using F
   rw[zA d]at A;exact A v1 ⟨s,Q⟩
set_option maxRecDepth 8000 in
theorem Wk1 (p:MP σ0 σ L H held s0 P mb am x)(mi:MeI x)(hc:x.calls<=899)(thread addr:Int)(hx:I63 addr){R:aN}
 (hR:∀e w ts H' held' s0' P',Ext (Md P mb am) σ w->MP σ0 w {L with ts:=ts} H' held' s0' P' mb am (x.fre addr e (H'.sp.st.count 2))->(∀b,P' b->P b\/σ.size<=b)->Z9 H' H->FreE H thread addr H' e->R e w) :
 Y6.c (aW mb) thread addr σ R:=by
 refine Y6.o ?_;unfold Y6.v;refine Wae p (ifF rfl (nilP (p.b.rP rfl ?_)));obtain⟨H',d,M,o,N⟩:=Wgq p.hi thread addr hx;refine WjX Wm6 p.h p.cf.2.2 M λv1 j B E=>?_;obtain⟨held',s0',y⟩:=o.hi;have D:=p.step B E y o.kp (o.rest p.ph);have s:∀b,Cut (Grow P σ) v1 b->P b\/σ.size<=b:=λb i=>i.1;have g:Ext (Md P mb am) σ v1:=B.sub λb i=>.inl i;have C:∀{u u':Hp},Ext (λb=>b=mb\/b=am) u u'->Ext (Md P mb am) u u':=λe=>e.sub λb i=>.inr i;refine Wbo (λw=>Ext (Md P mb am) σ w/\MP σ0 w {L with ts:=j} H' held' s0' (Cut (Grow P σ) v1) mb am (if d=0 then x.forget addr else x)) (λw ⟨r,A⟩=>?_) λJ m=>?_
 ·refine nilP (Wfm A ?_ d false λG Q F=>hR d G j H' held' s0' _ (r.trans (C Q)) F s o.kp N);split<;>exact hc
 ·refine ifD (λz=>?_) λz=>?_
  ·have a:d=0:=by simpa using z
   rw[zB a]at m;exact WdL D mi addr λK r A=>m K ⟨g.trans (C r),A⟩
  ·have a:d≠0:=by simpa using z
   rw[zA a]at m;exact m v1 ⟨g,D⟩
end Go.Ar
namespace Go.Ar
open Go Go.Vc Go.Proofs
open Go.Vc (mget mset mdel)
open Go.Bu (cnt)
variable {σ σ0 v w w':Hp}{F P Q X T:Rg}{L:LayH}{H H':Hw}{held:List Pc}{s0:Sp}{t n:Nat}{g:Th}{mb am m:Nat}{x y:Me}
theorem Wke {s:Sl}{bs:List Bk}(hs:SlR s 4 (bksV bs) σ F)(hl:bs.length<=1000000)(hb:∀b∈bs,0<=b.2.1/\b.2.1<=270000){R:aN}(hR:∀σ',Ext0 σ σ'->R ((bs.map λb=>b.2.1).sum) σ') :
 Xd.c s ⟨60,#[],#[]⟩ σ R:=by
 refine Xd.o ?_;unfold Xd.v;have A:s.len=bs.length:=by have:=hs.1;rw[G7]at this;omega
 refine Ko (a:=bN) (bb:=bN) (λ(sum i:Int) w=>∃k:Nat,i=k/\k<=bs.length/\Ext0 σ w/\sum=((bs.take k).map λb=>b.2.1).sum) (λ_ i _=>bs.length-i.toNat) ⟨0,rfl,O,Ext.refl _ _,by simp⟩ ?_;rintro(sum:Int) (i:Int) w ⟨k,rfl,hk,e,rfl⟩;refine ifD (λP=>?_) λD=>?_
 ·have C:k<bs.length:=by omega
  have r:bs[k]?=some bs[k]:=gGe _;generalize bs[k]=b at r;have J:=hb b (zE r);have g:=U9 (l:=bs.take k) (f:=λb:Bk=>b.2.1) (c:=270000) λb h=>hb b (zAY h);have u:(bs.take k).length=k:=by rw[zO];omega
  rw[u]at g;have d:((bs.take (k+1)).map λb:Bk=>b.2.1).sum=((bs.take k).map λb:Bk=>b.2.1).sum+b.2.1:=by rw[zh,r];simp
  refine WoA (aH.keep0 (aH.cut hs) e) r λbb o j=>ldI0 (j 0 _ rfl) (ldI0 (j 1 _ rfl) (ldI0 (j 2 _ rfl) (ldI0 (j 3 _ rfl) ?_)));refine nw (cs:=[.int .i64 0,.int .i64 0,.int .i64 0,.int .i64 0]) λV B E G=>G.s1 aA λv3 o3 H=>H.s1 aA λQ o4 K=>K.s1 aA λS o5 z=>z.s1 aA λv6 o6 p=>?_;have M:Ext0 w v6:=Ext.fresh (Ext.fresh (Ext.fresh (Ext.fresh E o3.ext λi x=>O) o4.ext λi x=>O) o5.ext λi x=>O) o6.ext λi x=>by omega
  refine p.rI rfl (p.rI rfl (p.rI rfl (p.rI rfl ?_)));refine Gr (all := #[.agg #[.int .i64 b.1,.int .i64 b.2.1,.int .i64 b.2.2.1,.int .i64 b.2.2.2]]) (by kernel_rfl) aA ?_;refine XK.o ?_;unfold XK.v;refine nw (cs:=[.int .i64 b.1,.int .i64 b.2.1,.int .i64 b.2.2.1,.int .i64 b.2.2.2]) λU N L y=>y.rI rfl (ar O O (arN (m:=k+1) O O ⟨⟨k+1,rfl,O,(e.trans M).trans L,d.symm⟩,O⟩))
 ·have:k=bs.length:=by omega
  subst this;rw[zl];exact hR w e
def Wd5 (l:List (Int×Bk)):Int:=(l.map λe=>e.2.2.1).sum
theorem WiQ (hi:HI H held s0){bs:List Bk}(hl:LiveL H.live bs):(bs.map λb=>(b.1,b)).Perm H.live:=by
 have g:(bs.map λb=>(b.1,b)).Nodup:=zCN.2 (hl.srt.imp λ{a b} h e=>by have:=congrArg Prod.fst e;simp only at this;omega);have i:H.live.Nodup:=by
  have:=zCN.1 hi.lk;exact this.imp λ{a b} h e=>h (by rw[e])
 rw[zEQ g i];intro e;rw[zC];constructor
 ·rintro⟨b,hb,rfl⟩;exact(hl.mem b).1 hb
 ·intro he;have d:=(hi.lv e he).1;exact⟨e.2,(hl.mem e.2).2 (by rw[d];exact he),by rw[d]⟩
theorem WoY {l l':List Int}(h:l.Perm l'):l.sum=l'.sum:=by
 induction h with
 | nil=>rfl
 | cons a _ ih=>simp only[zr];omega
 | swap a b l=>simp only[zr];omega
 | trans _ _ h1 h2=>omega
theorem WkV (hi:HI H held s0){bs:List Bk}(hl:LiveL H.live bs):(bs.map λb=>b.2.1).sum=Wd5 H.live:=by
 have a:=WoY ((WiQ hi hl).map λe=>e.2.2.1);rw[zAC]at a;exact a
def Wfd (H:Hw):Nat:=V7 H+Vf Ub H+Vf Wbd H
def U5:List Value:=[.int .i64 0,.int .i64 0,.int .i64 0,.int .i64 0,.int .i64 0,.int .i64 0,.int .i64 0,.int .i64 0,.int .i64 0,.int .i64 0]
set_option maxRecDepth 16000 in
theorem Gp (p:MP σ0 σ L H held s0 P mb am x){R:Int->Int->Int->Int->Int->Int->Int->Int->Int->Int->Hp->Prop}
 (hR:∀w,Ext0 σ w->StOk H->R x.sum (Wd5 H.live) (Wfd H:Nat) (Vf UA H:Nat) (Vf Vr H*256:Nat) x.peak x.dirty (x.mallocs:Nat) (x.frees:Nat) (x.fails:Nat) w):W6.c (aW mb) σ R:=by
 refine W6.o ?_;unfold W6.v;refine nw (cs:=U5) λv hz e V=>Wae (p.fr e) (ifF rfl (nilP ((p.fr e).b.rP rfl (WaR (p.fr e).h p.hi p.hands λz K Y=>?_))));refine nw (cs:=V3) λv13 X G D=>st11 D _ _ _ _ _ _ _ _ _ _ _ λv24 S g=>?_;have A:Ext0 z v24:=Ext.fresh G S λi (hi:i=z.size)=>by omega
 have ev:Ext0 v v24:=K.trans A;have d:=(p.fr e).fr ev;obtain⟨F,Q,M,E,W,U,N⟩:=Y;refine⟨λm=>Ext0 v24 m,Ext.refl _ _,nilP (Blk.rH (c:=bN) (y:=x.sum) d.b rfl (nilP (Blk.rH (c:=.p) (y:=some ⟨L.p,0,none⟩) d.b rfl (Blk.rH (c:=bN) (y:=(V7 H:Nat)) g rfl (Blk.rH (c:=bN) (y:=0) g rfl (arN (m:=V7 H) O O ?_))))))⟩;refine Blk.rH (c:=bN) (y:=(Vf Ub H:Nat)) g rfl (arN (m:=V7 H+Vf Ub H) O O (Blk.rH (c:=bN) (y:=(Vf Wbd H:Nat)) g rfl (arN (m:=Wfd H) (by unfold Wfd;omega) (by unfold Wfd;omega) ?_)));refine Blk.rH (c:=bN) (y:=(Vf UA H:Nat)) g rfl (Blk.rH (c:=bN) (y:=(Vf Vr H:Nat)) g rfl (arN (m:=Vf Vr H*256) O O ?_));refine nilP (Blk.rH (c:=bN) (y:=x.peak) d.b rfl (nilP (Blk.rH (c:=bN) (y:=x.dirty) d.b rfl (nilP (Blk.rH (c:=bN) (y:=(x.mallocs:Int)) d.b rfl (nilP (Blk.rH (c:=bN) (y:=(x.frees:Int)) d.b rfl (nilP (Blk.rH (c:=bN) (y:=(x.fails:Int)) d.b rfl ?_)))))))));refine WfS d.h p.hi λs v25 bs j J u=>⟨j,?_⟩;refine Wke (RowR.slR u) (by rw[J.len];exact p.hi.live_len) (λb V=>?_) λB r=>⟨j.trans r,?_⟩
 ·have:=p.hi.size8 ((J.mem b).1 V);simp only at this;omega
 rw[WkV p.hi J];have C:Blk B σ.size U5:=((ev.trans j).trans r).blk V id;unfold U5 at C;refine C.s1 aA λv1 o1 b1=>b1.s1 aA λv2 o2 b2=>b2.s1 aA λv3 o3 b3=>b3.s1 aA λv4 o4 b4=>b4.s1 aA λv5 o5 b5=>b5.s1 aA λv6 o6 b6=>b6.s1 aA λv7 o7 b7=>b7.s1 aA λv8 o8 b8=>b8.s1 aA λv9 o9 b9=>b9.s1 aA λv10 o10 a=>?_;refine a.rI rfl (a.rI rfl (a.rI rfl (a.rI rfl (a.rI rfl (a.rI rfl (a.rI rfl (a.rI rfl (a.rI rfl (a.rI rfl (hR v10 ?_ ⟨F,Q,M,E,W,U,N⟩))))))))));have Z:Ext (· = σ.size) B v10:=((((((((o1.ext.trans o2.ext).trans o3.ext).trans o4.ext).trans o5.ext).trans o6.ext).trans o7.ext).trans o8.ext).trans o9.ext).trans o10.ext;exact Ext.fresh (((e.trans ev).trans j).trans r) Z λi (hi:i=σ.size)=>by omega
theorem WlI (h:HH σ F L H)(hp:1<=H.cf.pages){R:aO}(hR:∀σ',Ext0 σ σ'->R true σ'):QA.c (aW L.p) σ R:=by
 refine QA.o ?_;unfold QA.v;refine JnB.intro (ifT rfl (Wgz h λw e=>?_));have:decide ((H.cf.pages:Int)>0)=true:=zW O;rw[this];exact hR w e
theorem Whb (e0:Ext0 σ0 σ)(h:HH σ P L H)(hi:HI H held s0)(hc:CfOk H)(hph:∀g∈H.ths,g.ph=none)(hpg:H.cf.pages<=128)(hP:∀b,P b->σ0.size<=b/\b<σ.size)(hg:Off (λb=>σ0.size<=b)/\¬σ0.size<=1){R:Option Addr->Int->Hp->Prop}
 (hR:∀w mb am,Ext0 σ w->σ.size<=mb->σ.size<=am->MP σ0 w L H held s0 P mb am me0->R (some ⟨mb,0,none⟩) 0 w):QJ.c (aW L.p) σ R:=by
 refine QJ.o ?_;unfold QJ.v;refine WlI h hc.1 λv e=>ifF rfl (WeU λm u j z=>nw (cs:=meV L.p v.size me0) λx s i r=>?_);have y:=e.1;have A:=e0.1;have a:=(e.trans j).trans i;refine hR x m.size v.size a O y ⟨e0.trans a,h.keep0 a,hi,hc,hph,hpg,λb d=>⟨(hP b d).1,by have:=(hP b d).2;omega⟩,⟨O,λd=>by have:=(hP _ d).2;omega⟩,⟨O,λd=>by have:=(hP _ d).2;omega⟩,O,r,i.mapL (z _ _) id,hg⟩
end Go.Ar