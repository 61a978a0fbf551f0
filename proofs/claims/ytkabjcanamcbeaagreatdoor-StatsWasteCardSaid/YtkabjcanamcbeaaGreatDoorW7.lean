/- Texts joined. -/
import Derived.Shelf.SlSortCmp.NoneTotal
import Derived.Ground.SlsfProg
import Derived.Test.YtkabjcanamcbeaaGreatDoorProg
import Derived.Shelf.SlIterI.Nil
import Derived.Ground.GgzProg
import Derived.Test.YtkabjcanamcbeaaGreatDoorW6
set_option linter.unusedVariables false
set_option linter.unusedSimpArgs false
namespace Go.Ar
open Go.Vc (bV dF cT)
open Go.Bu (Zf)
structure KS (s s':Sp):Prop where
 l:s'.st.length=s.st.length
 k:∀p,gf s.st p≠0->gf s'.st p≠0/\∀w,w/32=p->s'.wd w=s.wd w
theorem KS.refl (s:Sp):KS s s:=⟨rfl,λp a=>⟨a,λ_ _=>rfl⟩⟩
theorem KS.trans {a b c:Sp}(h:KS a b)(k:KS b c):KS a c:=⟨k.l.trans h.l,λp d=>⟨(k.k p (h.k p d).1).1,λw e=>((k.k p (h.k p d).1).2 w e).trans ((h.k p d).2 w e)⟩⟩
variable {s s' sp sp' s0 s0':Sp}{A B:AR}{k:Nat}
theorem gK.mz (h:gK s s'):s'.st.map (λx=>decide (x=0))=s.st.map λx=>decide (x=0):=by
 refine zy λi=>?_;rw[ze,ze];have a:=h.z i;unfold gf at a;rw[zL,zL]at a;by_cases hi:i<s.st.length
 ·have b:i<s'.st.length:=by rw[h.l];exact hi
  rw[cM hi,cM b]at a ⊢;simp only[oV]at a;simp[a]
 ·have d:=h.l;rw[zZ O,zZ O]
theorem FH {l l':List Nat}(h:l'.map (λx=>decide (x=0))=l.map λx=>decide (x=0))(a m:Nat)(f:Bool->Bool):((l'.drop a).take m).any (λx=>f (decide (x=0)))=((l.drop a).take m).any λx=>f (decide (x=0)):=by
 have e:∀l:List Nat,((l.drop a).take m).any (λx=>f (decide (x=0)))=(((l.map λx=>decide (x=0)).drop a).take m).any f:=λl=>by
  rw[←List.map_drop,←List.map_take,List.any_map];rfl
 rw[e,e,h]
theorem gK.fD (h:gK s s')(a m:Int):fD s' a m=fD s a m:=by
 unfold Go.Ar.fD;rw[h.l];have:=FH h.mz a.toNat m.toNat (λb=>!b);have e:∀l:List Nat,l.any (λx=>x != 0)=l.any λx=>!decide (x=0):=λl=>by
  refine congrArg l.any (funext λx=>?_);cases x<;>rfl
 rw[e,e,this]
theorem gK.fI (h:gK s s')(a m:Int):fI s' a m=fI s a m:=by
 unfold Go.Ar.fI Aa;rw[h.l];have:=FH h.mz a.toNat m.toNat (λb=>b);have e:∀l:List Nat,l.contains 0=l.any λx=>decide (x=0):=λl=>by
  rw[nG];simp only[tu,ka,zS,exists_eq_right]
 rw[e,e,this]
theorem gK.set (h:gK s s'){a m v:Nat}(hl:a+m<=s.st.length):gK (s.set a m v) (s'.set a m v):=by
 refine⟨by simp[Sp.set,Qj,h.l],λp=>?_,?_⟩
 ·show gf (fW s'.st a (a+m) v) p=0↔gf (fW s.st a (a+m) v) p=0;rw[Hx (by rw[h.l];exact hl),Hx hl];split
  ·exact Iff.rfl
  ·exact h.z p
 ·show(λw=>if a*32<=w/\w<(a+m)*32 then 0 else s'.wd w)=_
  rw[h.w];rfl
theorem Ey {n:Nat}{a m:Int}(h:Zf n a m=true):a.toNat+m.toNat<=n:=by
 by_cases h0:0<=a/\0<=m
 ·obtain⟨a,rfl⟩:=zi h0.1;obtain⟨m,rfl⟩:=zi h0.2;rw[dC,dC];exact(Vn.1 h).2
 ·exfalso;unfold Zf at h;simp at h;omega
theorem gK.gD (h:gK s s')(a m:Int):gK (gD s a m) (gD s' a m):=by
 unfold Go.Ar.gD;rw[h.fD];split
 ·rename_i h0;refine h.set ?_;unfold Go.Ar.fD at h0;split at h0
  ·rename_i hr;exact Ey hr
  ·simp at h0
 ·exact h
theorem gK.dX (h:gK s s')(a m:Int)(v:Nat):gK (dX s a m v) (dX s' a m v):=by
 unfold Go.Ar.dX;rw[h.fI];split
 ·rename_i h0;refine h.set ?_;unfold Go.Ar.fI at h0;split at h0
  ·rename_i hr;exact Ey hr
  ·simp at h0
 ·exact h
theorem Ii (s:Sp)(a m:Nat):KS s (gD s (a:Int) (m:Int)):=by
 by_cases h:fD s (a:Int) (m:Int)=0
 ·have g:=DU h;obtain⟨j,r,i,_⟩:=Es h;refine⟨j,λp e=>?_⟩;have b:¬(a<=p/\p<a+m):=λd=>e (g.2.2 p d.1 d.2);exact⟨by rw[r,zA b];exact e,λw u=>i w O⟩
 ·unfold gD;rw[zA h];exact KS.refl s
theorem gK.cY (h:gK s s')(size:Nat):cY s' size=cY s size:=by
 unfold Go.Ar.cY;rw[h.l]
 congr 1
 funext x
 rw[h.fD]
theorem gK.cZ (h:gK s s')(A:AR)(m a no:Nat):(cZ A s' m a no).1=(cZ A s m a no).1/\(cZ A s' m a no).2.1=(cZ A s m a no).2.1/\gK (cZ A s m a no).2.2 (cZ A s' m a no).2.2/\KS s' (cZ A s' m a no).2.2:=by
 unfold Go.Ar.cZ;split
 ·exact⟨rfl,rfl,h,KS.refl _⟩
 ·unfold UO;rw[h.cY];cases hg:Go.Ar.cY s (Q4 (max m a))with
  | none=>exact⟨rfl,rfl,h,KS.refl _⟩
  | some x=>
   simp only;split
   ·exact⟨rfl,rfl,h.gD _ _,Ii _ _ _⟩
   ·exact⟨rfl,rfl,h.gD _ _,Ii _ _ _⟩
theorem gK.cO (h:gK s s')(A:AR)(k:Int):(cO A s' k).1=(cO A s k).1/\KN A s' k=KN A s k/\gK (cO A s k).2 (cO A s' k).2/\KS s' (cO A s' k).2:=by
 unfold Go.Ar.cO KN;split
 ·split
  ·rename_i c ss _ _;obtain⟨a,e,d,b⟩:=h.cZ A c.aF 1 (k.toNat+1);cases e1:Go.Ar.cZ A s c.aF 1 (k.toNat+1)with
   | mk o1 r1=>cases e2:Go.Ar.cZ A s' c.aF 1 (k.toNat+1)with
    | mk o2 r2=>
     obtain⟨j,i⟩:=r1;obtain⟨g,m⟩:=r2;rw[e1,e2]at a e d;rw[e2]at b;simp only at a e d b;subst a;subst e;cases o2<;>exact⟨rfl,rfl,d,b⟩
  ·exact⟨rfl,rfl,h,KS.refl _⟩
 ·exact⟨rfl,rfl,h,KS.refl _⟩
theorem gK.cD (h:gK s s')(A:AR)(m a:Int):(cD A s' m a).1=(cD A s m a).1/\Qz A s' m a=Qz A s m a/\Z6 A s' m a=Z6 A s m a/\gK (cD A s m a).2 (cD A s' m a).2/\KS s' (cD A s' m a).2:=by
 unfold Go.Ar.cD Qz Z6;split
 ·obtain⟨b,g,e,d⟩:=h.cZ A m.toNat a.toNat 41;cases e1:Go.Ar.cZ A s m.toNat a.toNat 41 with
  | mk o1 r1=>cases e2:Go.Ar.cZ A s' m.toNat a.toNat 41 with
   | mk o2 r2=>
    obtain⟨p,j⟩:=r1;obtain⟨i,r⟩:=r2;rw[e1,e2]at b g e;rw[e2]at d;simp only at b g e d;subst b;subst g;cases o2<;>exact⟨rfl,rfl,rfl,e,d⟩
 ·exact⟨rfl,rfl,rfl,h,KS.refl _⟩
theorem FL (s:Sp)(a m:Int)(v:Nat):(dX s a m v).st.length=s.st.length:=by
 unfold Go.Ar.dX;split
 ·simp[Sp.set,Qj]
 ·rfl
theorem gK.wY:∀(rs:List (Nat×Nat)) {s s':Sp} (A:AR),gK s s'->(rs.foldl fE (A,s')).1=(rs.foldl fE (A,s)).1/\gK (rs.foldl fE (A,s)).2 (rs.foldl fE (A,s')).2/\(rs.foldl fE (A,s')).2.st.length=s'.st.length
 | [],s,s',A,h=>⟨rfl,h,rfl⟩
 | r::rs,s,s',A,h=>by
  rw[lp,lp];obtain⟨h1,h2,h3⟩:=gK.wY rs (fE (A,s) r).1 (h.dX r.1 r.2 1);exact⟨h1,h2,h3.trans (FL _ _ _ _)⟩
theorem gK.dV (h:gK s s')(A:AR)(want:Int):(dV A s' want).1=(dV A s want).1/\gK (dV A s want).2 (dV A s' want).2/\(dV A s' want).2.st.length=s'.st.length:=by
 unfold Go.Ar.dV;split
 ·exact⟨rfl,h,rfl⟩
 ·exact gK.wY _ _ h
theorem gK.sF:∀(rs:List Nat) {s s':Sp} (A:AR),gK s s'->(rs.foldl Vh (A,s')).1=(rs.foldl Vh (A,s)).1/\gK (rs.foldl Vh (A,s)).2 (rs.foldl Vh (A,s')).2/\(rs.foldl Vh (A,s')).2.st.length=s'.st.length
 | [],s,s',A,h=>⟨rfl,h,rfl⟩
 | r::rs,s,s',A,h=>by
  rw[lp,lp];obtain⟨h1,h2,h3⟩:=gK.sF rs (Vh (A,s) r).1 (h.dX ((r*16:Nat):Int) 16 0);exact⟨h1,h2,h3.trans (FL _ _ _ _)⟩
theorem gK.eJ (h:gK s s')(A:AR):(eJ A s').1=(eJ A s).1/\gK (eJ A s).2 (eJ A s').2/\(eJ A s').2.st.length=s'.st.length:=gK.sF _ _ h
variable {W:Wd}
theorem WnI (h:WI W){cl:Int}{l:List Int}(ho:jR W.held k cl l=true)(c x:Int):Um (W.held.filter λp=>!eI k cl l p) c x↔Um W.held c x/\¬(c=cl/\x∈l):=by
 constructor
 ·rintro⟨p,hp,h1,h2,h3⟩;obtain⟨a,d⟩:=zH.1 hp;refine⟨⟨p,a,h1,h2,h3⟩,?_⟩;rintro⟨rfl,b⟩;obtain⟨q,m,e⟩:=(KA.1 ho).1 x b;obtain⟨j,r,s,u⟩:=KE.1 e;obtain rfl:=h.same (p:=p) (q:=q) a m O;have:eI k c l p=true:=Z4.2 ⟨j,h2,by rw[h3];exact b⟩;rw[this]at d;cases d
 ·rintro⟨⟨p,hp,h1,h2,h3⟩,d⟩;refine⟨p,zH.2 ⟨hp,?_⟩,h1,h2,h3⟩;have:eI k cl l p=false:=mS.2 λb=>by
   obtain⟨_,g,i⟩:=Z4.1 b;exact d ⟨h2.symm.trans g,by rw[←h3];exact i⟩
  rw[this];rfl
theorem Rx {held:List Pc}{cl:Int}{l:List Int}(ho:jR held k cl l=true):∀x∈l,Um held cl x:=λx b=>by
 obtain⟨q,i,a⟩:=(KA.1 ho).1 x b;obtain⟨j,d,e,g⟩:=KE.1 a;exact⟨q,i,g,d,e⟩
theorem MJ (h:WI W){cl:Int}{l:List Int}(ho:jR W.held k cl l=true)(c x:Int):Um (Gs W.held k cl l true) c x↔Um W.held c x/\¬(c=cl/\x∈l):=by
 constructor
 ·rintro⟨p,hp,h1,h2,h3⟩;obtain⟨q,b,rfl⟩:=QL.1 hp;by_cases hof:eI k cl l q=true
  ·rw[zB hof]at h1;cases h1
  ·rw[zA hof]at h1 h2 h3;refine⟨⟨q,b,h1,h2,h3⟩,?_⟩;rintro⟨rfl,hx⟩;obtain⟨r,d,a⟩:=(KA.1 ho).1 x hx;obtain⟨i,j,m,s⟩:=KE.1 a;obtain rfl:=h.same b d O;exact hof (Z4.2 ⟨i,h2,by rw[h3];exact hx⟩)
 ·rintro⟨⟨p,hp,h1,h2,h3⟩,hn⟩;refine⟨p,QL.2 ⟨p,hp,?_⟩,h1,h2,h3⟩;rw[zA];intro hx;obtain⟨_,e,g⟩:=Z4.1 hx;exact hn ⟨h2.symm.trans e,by rw[←h3];exact g⟩
theorem TO {held:List Pc}{cl:Int}{l:List Int}:∀p∈Gs held k cl l true,p.dZ=false->p∈held:=λp b a=>by
 obtain⟨q,d,rfl⟩:=QL.1 b;by_cases hof:eI k cl l q=true
 ·rw[zB hof]at a;cases a
 ·rw[zA hof];exact d
theorem MU (h:WI W)(hk:W.bT[k]?=some A){j:Nat}:(∀x∈YM A (j:Int),∀c,¬Um W.held c x)/\(YM A (j:Int)).Nodup/\(∀c x,Um (Gs W.held k j (YM A (j:Int)) false) c x↔Um W.held c x\/(c=j/\x∈YM A (j:Int))) ∧
 (∀p∈Gs W.held k j (YM A (j:Int)) false,p.dZ=false->p∈W.held\/∀c,¬Um W.held c (p.addr:Int)):=by
 obtain⟨o,Q,C,H,M,P⟩:=I5 (h.ga k A hk) (j:Int);rw[dC]at C;have B:∀x∈YM A (j:Int),∃q∈W.held,q.k=k/\q.cls=j/\(q.addr:Int)=x/\q.dZ=true:=λx d=>by
  have s:=C x d;obtain⟨t,ht,i⟩:=s;have u:j<A.tb.length:=by rw[←(h.ga k A hk).lt];exact(cQ.1 ht).1
  obtain⟨c,J,L,z,E⟩:=(h.ga k A hk).cl u;have w:eZ A j x:=(KR z).2 ((h.ga k A hk).lM j c J t z ht x i);obtain⟨q,a,r,m,b⟩:=h.ht k A hk j x w;obtain⟨_,_,_,_,D⟩:=h.cls a m (by rw[r];exact hk);exact⟨q,a,r,m,b,D.2 (by rw[b];exact⟨t,ht,i⟩)⟩
 have e:∀x∈YM A (j:Int),∀c,¬Um W.held c x:=λx d c K=>by
  obtain⟨q,a,_,_,b,y⟩:=B x d;have:=(h.um a K b).1;rw[y]at this;cases this
 refine⟨e,H,λc x=>⟨?_,?_⟩,λp g N=>?_⟩
 ·rintro⟨p,g,h1,h2,h3⟩;obtain⟨q,a,rfl⟩:=QL.1 g;by_cases hof:eI k (j:Int) (YM A (j:Int)) q=true
  ·rw[zB hof]at h2 h3;obtain⟨_,F,G⟩:=Z4.1 hof;exact .inr ⟨h2.symm.trans F,by rw[←h3];exact G⟩
  ·rw[zA hof]at h1 h2 h3;exact .inl ⟨q,a,h1,h2,h3⟩
 ·rintro(⟨p,g,h1,h2,h3⟩|⟨rfl,d⟩)
  ·refine⟨p,QL.2 ⟨p,g,?_⟩,h1,h2,h3⟩;split
   ·rw[←h1]
   ·rfl
  ·obtain⟨q,a,r,m,b,y⟩:=B x d;refine⟨{q with dZ:=false},QL.2 ⟨q,a,?_⟩,rfl,m,b⟩;rw[zB (Z4.2 ⟨r,m,by rw[b];exact d⟩)]
 ·obtain⟨q,a,rfl⟩:=QL.1 g;by_cases hof:eI k (j:Int) (YM A (j:Int)) q=true
  ·rw[zB hof];exact .inr (e _ (Z4.1 hof).2.2)
  ·rw[zA hof];exact .inl a
theorem Aw {tb:List bW}{bT:List AR}{sp:Sp}{held new:List Pc}(h:WI ⟨tb,sp,bT,held++new⟩):∀p∈new,∀c,¬Um held c (p.addr:Int):=by
 rintro p b c ⟨q,d,_,_,g⟩;have e:=h.same (p:=p) (q:=q) (pV _ b) (nB _ d) O;have a:=h.hk;simp only[zu]at a;rw[oD]at a;exact a.2.2 q.key (zC.2 ⟨q,d,rfl⟩) p.key (zC.2 ⟨p,b,rfl⟩) (by rw[e])
theorem EC {held new:List Pc}{cl:Int}{l:List Int}(h1:∀p∈new,p.dZ=false/\p.cls=cl/\(p.addr:Int)∈l)(h2:∀x∈l,∃p∈new,(p.addr:Int)=x)(c x:Int):Um (held++new) c x↔Um held c x\/(c=cl/\x∈l):=by
 constructor
 ·rintro⟨p,b,a1,a2,a3⟩;rcases zR.1 b with b|b
  ·exact .inl ⟨p,b,a1,a2,a3⟩
  ·obtain⟨_,g,d⟩:=h1 p b;exact .inr ⟨a2.symm.trans g,by rw[←a3];exact d⟩
 ·rintro(⟨p,b,a⟩|⟨rfl,hx⟩)
  ·exact⟨p,nB _ b,a⟩
  ·obtain⟨p,b,e⟩:=h2 x hx;exact⟨p,pV _ b,(h1 p b).1,(h1 p b).2.1,e⟩
theorem F7 {tb:List bW}{bT:List AR}{sp:Sp}{held new:List Pc}(h:WI ⟨tb,sp,bT,held++new⟩):∀p∈held++new,p.dZ=false->p∈held\/∀c,¬Um held c (p.addr:Int):=λp a _=>by
 rcases zR.1 a with a|a
 ·exact .inl a
 ·exact .inr (Aw h p a)
theorem S4 {held:List Pc}(us:List AR)(c x:Int):Um (vz us held) c x↔Um held c x:=by
 unfold vz;constructor
 ·rintro⟨p,hp,h⟩;exact⟨p,(zH.1 hp).1,h⟩
 ·rintro⟨p,hp,h1,h⟩;exact⟨p,zH.2 ⟨hp,by rw[h1];rfl⟩,h1,h⟩
theorem KW {ss:List cH}:∀{i:Nat},Zv ss i=none->∀k,k<i->∀s,ss[k]?=some s->¬s.many<s.tk.length
 | 0,_,k,hk,_,_=>by omega
 | i+1,h,k,hk,s,hs=>by
  unfold Zv at h;by_cases hki:k=i
  ·subst hki;rw[hs]at h;simp only at h;intro hlt;rw[zB hlt]at h;split at h
   ·split at h
    ·split at h<;>cases h
    ·cases h
   ·cases h
  ·cases hi:ss[i]? with
   | none=>
    rw[hi]at h;exact KW h k O s hs
   | some x=>
    rw[hi]at h;simp only at h;split at h
    ·split at h
     ·split at h
      ·split at h<;>cases h
      ·cases h
     ·exact KW (by assumption) k O s hs
    ·exact KW h k O s hs
theorem Mi (h:GA A)(hw:Ow A sp){j:Nat}(hE:KN A sp (j:Int)=0){w:Nat}(h1:1<=w):Yv (cO A sp (j:Int)).1 (j:Int) (w:Int)≠[]:=by
 rcases F3 h hw (j:Int)with⟨_,hn⟩|⟨j',c,ss,x,A1,sp1,hj,hk,hk1,_,e,hst,r1,r2,r3,_,hd,hS⟩
 ·exact(hn hE).elim
 ·obtain rfl:j=j':=by omega
  have a:Cl (cO A sp (j:Int)).1 j c (iy c ss x):=by
   rw[e];have g:Cl (dU A1 x c.aF (j+1)) j c ss:=hk1;exact Hb g _
  have B:=hS.ga.cC j c _ a;have b:(⟨x,List.replicate c.n false⟩:cH)∈iy c ss x:=VA.2 (.inl rfl);have u:(cO A sp (j:Int)).1.ck (j:Int)=true:=Hu.2 ⟨j,rfl,a.lt⟩;unfold Yv QJ Vy;rw[u,zB rfl,zA (show ¬((w:Int)<0) by omega),zB rfl,dC,dC,a.1,a.2];simp only;obtain⟨w,rfl⟩:∃v,w=v+1:=⟨w-1,O⟩;cases ho:ju c (iy c ss x)with
  | some r=>
   obtain⟨y,E⟩:=r;rw[GF ho];simp
  | none=>
   exfalso;unfold ju nf at ho;obtain⟨l,z⟩:=zN b;have p:=(cQ.1 z).1;have d:(⟨x,List.replicate c.n false⟩:cH).many<(⟨x,List.replicate c.n false⟩:cH).tk.length:=by
    have:=B.ok.lr;simp[cH.many,Ag];omega
   cases hb:Zv (iy c ss x) (iy c ss x).length with
   | none=>exact KW hb l p _ z d
   | some i=>
    rw[hb]at ho;obtain⟨_,s,C,m⟩:=QQ hb;obtain⟨r,D,_⟩:=G8 m;simp only[C,D]at ho;cases ho
end Go.Ar
namespace Go.Ar
open Go.Vc (bV dF cT)
variable {H:Hw}{held:List Pc}{s0:Sp}{t k:Nat}{g:Th}{A:AR}{c:bW}
theorem Z5 {p:Ph}{H1:Hw}{g1:Th}{nx:Option Ph}{a e:Int}(ht:t<H.bQ.length)(hs:Wt H t p=({H1 with bQ:=H.bQ.set t g1},nx,a,e)):QP H t p = {H1 with bQ:=H.bQ.set t {g1 with ph:=nx}}:=by
 unfold QP;rw[hs];show Hw.eA _ t _=_;rw[ZM (g:=g1) (by simp[ht])];simp only[ot]
structure iU (H:Hw) (t:Nat) (p:Ph):Prop where
 ok:ve H t p
 hi:∃held s0,HI (QP H t p) held s0
 ks:KS H.sp (QP H t p).sp
theorem iU.mk' {p:Ph}(hg:H.bQ[t]?=some g)(hl:g.bP.length<=41)(h1:uQ H t p){H':Hw}{held':List Pc}{s0':Sp}(e:QP H t p=H')(h2:HI H' held' s0')(h3:KS H.sp H'.sp):iU H t p:=
 ⟨⟨h1,λb a=>by rw[hg]at a;cases a;omega⟩,⟨held',s0',by rw[e];exact h2⟩,by rw[e];exact h3⟩
def Rq (tb:List bW)(g:Th):Ph->Int->Int->Prop
 | .take k,cl,sz=>cl=k/\∃c,tb[k]?=some c/\sz=c.size
 | .cN k _,cl,sz=>cl=k/\∃c,tb[k]?=some c/\sz=c.size
 | .cP k _,cl,sz=>cl=k/\∃c,tb[k]?=some c/\sz=c.size
 | .grow k _,cl,sz=>cl=k/\∃c,tb[k]?=some c/\sz=c.size
 | .fill,cl,sz=>∃k xs r c,g.bP=(k,xs)::r/\cl=k/\tb[k]?=some c/\sz=c.size
 | .eR m,cl,sz=>cl = -1/\sz=((m*256:Nat):Int)
 | _,_,_=>False
def pj (H:Hw)(t:Nat):Ph->Nat
 | .take _=>5
 | .cN _ _=>4
 | .cP k w=>if Yv (H.eN t) (k:Int) (w:Int)=[]then 3 else 1
 | .grow _ _=>2
 | _=>0
def tH (H:Hw)(t:Nat)(p:Ph)(cl sz:Int):Prop:=
 (∃p' g',(Wt H t p).2.1=some p'/\(QP H t p).live=H.live/\(QP H t p).bQ[t]?=some g'/\Rq H.tb g' p' cl sz/\pj (QP H t p) t p'<pj H t p) ∨
 ((Wt H t p).2.1=none/\(Wt H t p).2.2.2≠0/\(Wt H t p).2.2.1=0/\(QP H t p).live=H.live) ∨
 ((Wt H t p).2.1=none/\(Wt H t p).2.2.2=0/\bV H.live (Wt H t p).2.2.1=none/\(QP H t p).live=dF H.live (Wt H t p).2.2.1 ((Wt H t p).2.2.1,sz,cl,YK (QP H t p).bT (Wt H t p).2.2.1))
theorem HI.mem (h:HI H held s0)(hg:H.bQ[t]?=some g):g∈H.bQ:=zE hg
theorem HI.kh (h:HI H held s0)(t:Nat):H.own t<H.bT.length:=uc _ (by have:=h.a1;omega)
theorem HI.eN (h:HI H held s0)(t:Nat):H.bT[H.own t]?=some (H.eN t):=by
 have a:=cM (h.kh t);rw[AO a];exact a
theorem HI.lZ (h:HI H held s0):H.tb.length<=40:=by
 have a:=h.eN 0;have:=(h.wi.ga _ _ a).tb;rw[h.wi.tb _ _ a]at this;exact this
theorem HI.cls (h:HI H held s0)(hk:k<H.tb.length):∃c,H.tb[k]?=some c/\c.ok:=⟨H.tb[k],cM hk,h.ok _ (zc hk)⟩
theorem tP.li {m:Nat}(h:tP m g)(hk:k<m):∃l,g.ls[k]?=some l/\g.li k=l/\fQ l/\l.os.length<=128:=by
 have a:=cM (l:=g.ls) (i:=k) (by rw[h.ll];exact hk);have:=h.lo _ (zc (by rw[h.ll];exact hk));exact⟨_,a,y5 a,this.1,this.2⟩
theorem tP.iK {m:Nat}(h:tP m g){l':Li}(h1:fQ l')(h2:l'.os.length<=128):(g.ls.set k l').length=m/\∀l∈g.ls.set k l',fQ l/\l.os.length<=128:=by
 refine⟨by rw[oR];exact h.ll,λl a=>?_⟩;rcases xj a with a|rfl
 ·exact h.lo l a
 ·exact⟨h1,h2⟩
theorem Mn {ls:List Li}{l':Li}{hs:List Bt}{ph:Option Ph}(hk:k<ls.length):(⟨ls.set k l',hs,ph⟩:Th).li k=l':=by
 unfold Th.li;rw[Ie l' k hk,zB rfl]
theorem HI.xk (h:HI H held s0){y:Int}(hu:Um held (k:Int) y)(hc:H.tb[k]?=some c):Lv held (y,(y,(c.size:Int),(k:Int),YK H.bT y)):=by
 obtain⟨p,d,j,g,rfl⟩:=hu;obtain⟨A,e,_⟩:=h.wi.hf p d;obtain⟨c',b,i,_⟩:=h.wi.cls d g e;rw[h.wi.tb _ _ e]at b;have a:H.tb[k]?=some c':=b;rw[hc]at a;cases a;exact⟨rfl,p,d,j,g,rfl,by rw[i],by rw[h.pM d]⟩
theorem Ak {ls:List Li}{l:Li}(hl:ls[k]?=some l)(l':Li)(k' x:Int):mn (ls.set k l') k' x+(if(k:Int)=k' then l.os.count x else 0)=mn ls k' x+(if(k:Int)=k' then l'.os.count x else 0):=by
 have:=Pa l' (cQ.1 hl).1 k' x;rw[zL,hl]at this;exact this
theorem Γ {ls:List Li}{l:Li}(hl:ls[k]?=some l)(x:Int):mn ls (k:Int) x=l.os.count x:=by
 rw[wW,zL,hl];rfl
theorem ω (h:HI H held s0)(hg:H.bQ[t]?=some g)(hph:g.ph=some (.take k)){cl sz:Int}(hr:Rq H.tb g (.take k) cl sz):iU H t (.take k)/\tH H t (.take k) cl sz:=by
 have F:=(cQ.1 hg).1;have b:=h.th g (h.mem hg);obtain⟨P,C⟩:g.bP=[]/\k<H.tb.length:=by have:=b.ph;unfold iE at this;rw[hph]at this;exact this
 obtain⟨rfl,c,m,rfl⟩:=hr;have z:=h.ok c (zE m);obtain⟨l,hl,j,K,U⟩:=b.li C;have d:=Ik z K;have i:=GJ hg;cases hT:Ka c l with
 | mk o l'=>
  rw[hT]at d;cases o with
  | some y=>
   have u:Wt H t (.take k)=({{H with live:=dF H.live y (y,(c.size:Int),(k:Int),YK H.bT y)}with bQ:=H.bQ.set t {g with ls:=g.ls.set k l'}},none,y,0):=by
    simp only[Wt,i,Ue m,j,hT,VG,ZM hg,Th.iK]
   have e:=Z5 F u;have A:1<=gZ g (k:Int) y:=by
    have:=IV hT y;rw[C0]at this;unfold gZ;rw[Γ hl];omega
   have Q:=h.qX (h.mem hg) A;have J:=h.mD (h.mem hg) A;have B:l'.os.length<=128:=by
    have:l'.os.length<=l.os.length:=by
     unfold Ka at hT;split at hT
     ·cases hT
     ·cases hT;simp
    omega
   obtain⟨ll,N⟩:=b.iK (k:=k) d B;have G:=h.kR hg (g':={g with ls:=g.ls.set k l',ph:=none}) (live':=dF H.live y (y,(c.size:Int),(k:Int),YK H.bT y)) (λD x=>by
    rw[C5 _ J];have E:=Ak hl l' D x;have W:=IV hT x;unfold gZ;rw[hph];simp only[j8];by_cases hkk:(k:Int)=D
    ·simp only[hkk,zT]at E ⊢;omega
    ·simp only[hkk,zw]at E ⊢;omega)
    (Go.Vc.ig h.lk) (λV w=>by
     rcases(BF J).1 w with w|rfl
     ·exact .inl w
     ·exact .inr (h.xk Q m))
    (λs a L=>by cases L) ⟨ll,N,b.hb,b.hl,by unfold iE;exact P⟩
   refine⟨iU.mk' hg b.hl ⟨C,λS M p=>?_⟩ e G (KS.refl _),.inr (.inr ?_)⟩
   ·rw[i,j,Ue m,hT]at p;cases p;exact(h.i63 Q).1
   ·rw[e,u];exact⟨rfl,rfl,J,rfl⟩
  | none=>
   have u:Wt H t (.take k)=({H with bQ:=H.bQ.set t {g with ls:=g.ls.set k l'}},some (.cN k (qb c l')),0,0):=by
    simp only[Wt,i,Ue m,j,hT,ZM hg,Th.iK]
   have e:=Z5 F u;obtain⟨o1,o2⟩:=RQ hT;obtain⟨ll,N⟩:=b.iK (k:=k) d (by rw[o2];simp);have r:=d.oo;have R:1<=qb c l'/\qb c l'<=32:=by
    unfold bW.ok at z;unfold qb;simp only at r;omega
   have G:=h.kR hg (g':={g with ls:=g.ls.set k l',ph:=some (.cN k (qb c l'))}) (live':=H.live) (λD x=>by
    have E:=Ak hl l' D x;rw[o1,o2]at E;unfold gZ;rw[hph];simp only[j8];omega) h.lk (λV w=>.inl w) (λs a L=>by cases L) ⟨ll,N,b.hb,b.hl,by
     unfold iE;exact⟨P,C,by rw[Mn (by rw[b.ll];exact C)];exact o2,R⟩⟩
   refine⟨iU.mk' hg b.hl ⟨C,λS M p=>?_⟩ e G (KS.refl _),.inl ?_⟩
   ·rw[i,j,Ue m,hT]at p;cases p
   ·rw[e,u];exact⟨_,_,rfl,rfl,zM F,⟨rfl,c,m,rfl⟩,by simp[pj]⟩
theorem GL (h:GA A)(h0:Z7 A (k:Int)=0)(hc:A.tb[k]?=some c):∃x xs,YM A (k:Int)=x::xs/\xs.length+1=c.batch:=by
 have b:YM A (k:Int)=(match A.cE[k]? with
  | some t=>t.bs.getLast?.getD []
  | none=>[]):=by unfold YM;rw[zB h0,dC];rfl
 unfold Z7 at h0;rw[dC]at h0;split at h0
 ·split at h0
  ·rename_i t ht;split at h0
   ·cases h0
   ·rename_i hb;rw[ht]at b;simp only at b;have i:t.bs.getLast?=some (t.bs.getLast hb):=List.getLast?_eq_some_getLast hb;rw[i]at b;simp only[oV]at b;have:=h.nS k c t hc ht _ (List.getLast_mem hb);rw[←b]at this;have m:=h.cC;cases hx:YM A (k:Int)with
    | nil=>
     rw[hx]at this;have d:k<A.tb.length:=(cQ.1 hc).1;obtain⟨g,j,_,a,_⟩:=h.cl d;have e:g=c:=Option.some.inj (a.1.symm.trans hc);have:=(h.cC k g j a).ok;unfold bW.ok at this;simp at *;subst e;omega
    | cons x xs=>exact⟨x,xs,rfl,by rw[hx]at this;simpa using this⟩
  ·cases h0
 ·cases h0
theorem Mq (h:HI H held s0)(hg:H.bQ[t]?=some g){w:Nat}(hph:g.ph=some (.cN k w)){cl sz:Int}(hr:Rq H.tb g (.cN k w) cl sz):iU H t (.cN k w)/\tH H t (.cN k w) cl sz:=by
 have A:=(cQ.1 hg).1;have d:=h.th g (h.mem hg);obtain⟨G,D,p,P⟩:g.bP=[]/\k<H.tb.length/\(g.li k).os=[]/\1<=w/\w<=32:=by have:=d.ph;unfold iE at this;rw[hph]at this;exact this
 obtain⟨rfl,c,i,rfl⟩:=hr;have J:=h.ok c (zE i);have z:=J;unfold bW.ok at z;have B:=h.eN t;have ga:=h.wi.ga _ _ B;have r:(H.eN t).tb[k]?=some c:=by rw[h.wi.tb _ _ B];exact i
 have M:uQ H t (.cN k w):=⟨D,λC=>by
  obtain⟨x,u,e,_⟩:=GL ga C r;rw[e];simp⟩
 by_cases hcase:w=c.batch/\Z7 (H.eN t) (k:Int)=0
 ·obtain⟨rfl,C⟩:=hcase;obtain⟨x,u,L,R⟩:=GL ga C r;have m:Wt H t (.cN k c.batch)=({H.cB (H.own t) (ZR (H.eN t) (k:Int))with bQ:=H.bQ.set t {g with bP:=[(k,x::u)]}},some .fill,0,0):=by
   simp only[Wt,Ue i,zT,C,QR,L];rw[ZM (g:=g) (by exact hg),G];rfl
  have e:=Z5 (H1:=H.cB (H.own t) (ZR (H.eN t) (k:Int))) A m;obtain⟨S,W,U,V⟩:=MU h.wi B (j:=k);have wi:=h.wi.wE B (k:Int);have E:=h.fO hg (g':={g with bP:=[(k,x::u)],ph:=some .fill}) (live':=H.live) wi h.la rfl (by simp[Wd.put]) V (λN y=>by
   rw[C4 W (λy Q=>S y Q _) U,L];unfold gZ;rw[hph,G];simp only[j8,Kz,VF];omega) h.lk (λX F=>.inl F) (λs a K=>by cases K) ⟨d.ll,d.lo,λb hb=>by
    simp only[zW]at hb;subst hb;exact⟨D,by simp,by simp;omega⟩,by simp,by
    unfold iE;exact⟨k,x,u,rfl,D,p,O⟩⟩
  refine⟨iU.mk' hg d.hl M e E (KS.refl _),.inl ?_⟩;rw[e,m];exact⟨_,_,rfl,rfl,zM A,⟨k,x::u,[],c,rfl,rfl,i,rfl⟩,by simp[pj]⟩
 ·have m:Wt H t (.cN k w)=({H with bQ:=H.bQ.set t g},some (.cP k w),0,0):=by
   have:H.bQ.set t g=H.bQ:=Ql hg;rw[this];simp only[Wt,Ue i];split
   ·split
    ·exact(hcase ⟨by assumption,by assumption⟩).elim
    ·rfl
   ·rfl
  have e:=Z5 A m;have E:=h.kR hg (g':={g with ph:=some (.cP k w)}) (live':=H.live) (λN x=>by
   unfold gZ;rw[hph];simp only[j8]) h.lk (λX F=>.inl F) (λs a K=>by cases K) ⟨d.ll,d.lo,d.hb,d.hl,by
    unfold iE;exact⟨G,D,p,P⟩⟩
  refine⟨iU.mk' hg d.hl M e E (KS.refl _),.inl ?_⟩;rw[e,m];refine⟨_,_,rfl,rfl,zM A,⟨rfl,c,i,rfl⟩,?_⟩;simp only[pj];split<;>omega
theorem On (h:GA A)(j w:Nat):(Yv A (j:Int) (w:Int)).length<=w:=by
 unfold Yv;split
 ·rename_i h0;have b:A.ck (j:Int)=true:=by
   unfold QJ at h0;split at h0
   ·assumption
   ·cases h0
  obtain⟨i,m,d⟩:=Hu.1 b;obtain⟨c,e,t,a,g⟩:=h.cl d;have:i=j:=by omega
  subst this;unfold Vy;rw[dC,dC,a.1,a.2];exact(Gw w (h.cC i c e a)).2.2.1
 ·simp
theorem T8 (H:Hw)(t:Nat)(B:AR)(h:H.own t<H.bT.length)(sp:Sp)(bQ:List Th):Hw.eN {H.cB (H.own t) B with sp:=sp,bQ:=bQ} t=B:=by
 refine AO ?_;have:Hw.own {H.cB (H.own t) B with sp:=sp,bQ:=bQ} t=H.own t:=by unfold Hw.own Hw.cB;simp
 rw[this];simp[Hw.cB,h]
theorem Ol (h:HI H held s0)(hg:H.bQ[t]?=some g){w:Nat}(hph:g.ph=some (.cP k w)){cl sz:Int}(hr:Rq H.tb g (.cP k w) cl sz):iU H t (.cP k w)/\tH H t (.cP k w) cl sz:=by
 have C:=(cQ.1 hg).1;have d:=h.th g (h.mem hg);obtain⟨F,J,A,N⟩:g.bP=[]/\k<H.tb.length/\(g.li k).os=[]/\1<=w/\w<=32:=by have:=d.ph;unfold iE at this;rw[hph]at this;exact this
 obtain⟨rfl,c,L,rfl⟩:=hr;have K:=h.eN t;have ga:=h.wi.ga _ _ K;have wi:=h.wi.from K (k:Int) (w:Int);have i:=On ga k w;have u:=(LP ga (k:Int) (w:Int)).2.2.1;cases hv:Yv (H.eN t) (k:Int) (w:Int)with
 | nil=>
  have r:Wt H t (.cP k w)=({H.cB (H.own t) (YQ (H.eN t) (k:Int) (w:Int))with bQ:=H.bQ.set t g},some (.grow k w),0,0):=by
   have:H.bQ.set t g=H.bQ:=Ql hg;rw[this];simp only[Wt,hv,zT,Hw.cB]
  have e:=Z5 (H1:=H.cB (H.own t) (YQ (H.eN t) (k:Int) (w:Int))) C r;rw[hv]at wi;simp only[pI,j9]at wi;have D:=h.fO hg (g':={g with ph:=some (.grow k w)}) (live':=H.live) wi h.la rfl (by simp[Wd.put]) (λp j _=>.inl j) (λM y=>by
   unfold gZ;rw[hph];simp only[j8]) h.lk (λS E=>.inl E) (λs a j=>by cases j) ⟨d.ll,d.lo,d.hb,d.hl,by
    unfold iE;exact⟨F,J,A,N⟩⟩
  refine⟨iU.mk' hg d.hl trivial e D (KS.refl _),.inl ?_⟩;rw[e,r];exact⟨_,_,rfl,rfl,zM C,⟨rfl,c,L,rfl⟩,by simp[pj,hv]⟩
 | cons v vs=>
  have r:Wt H t (.cP k w)=({H.cB (H.own t) (YQ (H.eN t) (k:Int) (w:Int))with bQ:=H.bQ.set t {g with bP:=[(k,(v::vs).map λ(x:Nat)=>(x:Int))]}},some .fill,0,0):=by
   simp only[Wt,hv,QR];rw[zA aA,ZM (g:=g) (by exact hg),F];rfl
  have e:=Z5 (H1:=H.cB (H.own t) (YQ (H.eN t) (k:Int) (w:Int))) C r;rw[hv]at wi i u;have B:((v::vs).map λ(x:Nat)=>(x:Int)).Nodup:=List.Pairwise.map (R:=(· ≠ ·)) _ (λa b G e=>G O) u;have app:=EC (held:=held) (new:=(v::vs).map λy=>(⟨H.own t,(k:Int),y,pB H.tb (k:Int),false⟩:Pc)) (cl:=(k:Int)) (l:=(v::vs).map λ(x:Nat)=>(x:Int)) (λp j=>by
   obtain⟨y,m,rfl⟩:=zC.1 j;exact⟨rfl,rfl,zC.2 ⟨y,m,rfl⟩⟩) λx P=>by
   obtain⟨y,m,rfl⟩:=zC.1 P;exact⟨_,zC.2 ⟨y,m,rfl⟩,rfl⟩
  have new:=Aw wi;have D:=h.fO hg (g':={g with bP:=[(k,(v::vs).map λ(x:Nat)=>(x:Int))],ph:=some .fill}) (live':=H.live) wi h.la rfl (by simp[Wd.put]) (F7 wi) (λM y=>by
   rw[C4 B (λy m=>by
    obtain⟨z,Q,rfl⟩:=zC.1 m;exact new ⟨H.own t,(k:Int),z,pB H.tb (k:Int),false⟩ (zC.2 ⟨z,Q,rfl⟩) _) app]
   unfold gZ;rw[hph,F];simp only[j8,Kz,VF];omega) h.lk (λS E=>.inl E) (λs a j=>by cases j) ⟨d.ll,d.lo,λb hb=>by
    simp only[zW]at hb;subst hb;exact⟨J,by simp,by simp at i ⊢;omega⟩,by simp,by
    unfold iE;exact⟨k,(v:Int),vs.map λ(x:Nat)=>(x:Int),rfl,J,A,by simp at i ⊢;omega⟩⟩
  refine⟨iU.mk' hg d.hl trivial e D (KS.refl _),.inl ?_⟩;rw[e,r];refine⟨_,_,rfl,rfl,zM C,⟨k,_,[],c,rfl,rfl,L,rfl⟩,?_⟩;simp[pj,hv]
theorem Rf (h:HI H held s0)(hg:H.bQ[t]?=some g){w:Nat}(hph:g.ph=some (.grow k w)){cl sz:Int}(hr:Rq H.tb g (.grow k w) cl sz):iU H t (.grow k w)/\tH H t (.grow k w) cl sz:=by
 have u:=(cQ.1 hg).1;have b:=h.th g (h.mem hg);obtain⟨F,L,A,D⟩:g.bP=[]/\k<H.tb.length/\(g.li k).os=[]/\1<=w/\w<=32:=by have:=b.ph;unfold iE at this;rw[hph]at this;exact this
 obtain⟨rfl,c,J,rfl⟩:=hr;have z:=h.eN t;have ga:=h.wi.ga _ _ z;obtain⟨C,M,E,r⟩:=h.la.cO (H.eN t) (k:Int);have wi:=h.wi.grow z (k:Int);by_cases h0:KN (H.eN t) H.sp (k:Int)=0
 ·have m:Wt H t (.grow k w)=({{H.cB (H.own t) (cO (H.eN t) H.sp (k:Int)).1 with sp:=(cO (H.eN t) H.sp (k:Int)).2}with bQ:=H.bQ.set t g},some (.cP k w),0,0):=by
   have:H.bQ.set t g=H.bQ:=Ql hg;rw[this];simp only[Wt,h0,zT,Hw.cB]
  have e:=Z5 (H1:={H.cB (H.own t) (cO (H.eN t) H.sp (k:Int)).1 with sp:=(cO (H.eN t) H.sp (k:Int)).2}) u m;have d:=Mi ga (h.wi.ow _ _ z) (j:=k) (by rw[←M];exact h0) D.1;rw[show(Wd.mk H.tb s0 H.bT held).sp=s0 from rfl,←C]at d;rw[show(Wd.mk H.tb s0 H.bT held).sp=s0 from rfl,←C]at wi;have x:=h.fO hg (g':={g with ph:=some (.cP k w)}) (live':=H.live) wi E r.l (by simp[Wd.put]) (λp i _=>.inl i) (λG y=>by
   unfold gZ;rw[hph];simp only[j8]) h.lk (λK B=>.inl B) (λs a i=>by cases i) ⟨b.ll,b.lo,b.hb,b.hl,by
    unfold iE;exact⟨F,L,A,D⟩⟩
  refine⟨iU.mk' hg b.hl trivial e x r,.inl ?_⟩;rw[e,m];refine⟨_,_,rfl,rfl,zM u,⟨rfl,c,J,rfl⟩,?_⟩;have:=T8 H t (cO (H.eN t) H.sp (k:Int)).1 (h.kh t) (cO (H.eN t) H.sp (k:Int)).2 (H.bQ.set t {g with ph:=some (.cP k w)});simp only[pj];rw[this,zA d];omega
 ·have m:Wt H t (.grow k w)=({{H.cB (H.own t) (cO (H.eN t) H.sp (k:Int)).1 with sp:=(cO (H.eN t) H.sp (k:Int)).2}with bQ:=H.bQ.set t g},none,0,KN (H.eN t) H.sp (k:Int)):=by
   have:H.bQ.set t g=H.bQ:=Ql hg;rw[this];simp only[Wt,h0,zw,Hw.cB]
  have e:=Z5 (H1:={H.cB (H.own t) (cO (H.eN t) H.sp (k:Int)).1 with sp:=(cO (H.eN t) H.sp (k:Int)).2}) u m;rw[show(Wd.mk H.tb s0 H.bT held).sp=s0 from rfl,←C]at wi;have x:=h.fO hg (g':={g with ph:=none}) (live':=H.live) wi E r.l (by simp[Wd.put]) (λp i _=>.inl i) (λG y=>by
   unfold gZ;rw[hph];simp only[j8]) h.lk (λK B=>.inl B) (λs a i=>by cases i) ⟨b.ll,b.lo,b.hb,b.hl,by
    unfold iE;exact F⟩
  refine⟨iU.mk' hg b.hl trivial e x r,.inr (.inl ?_)⟩;rw[e,m];exact⟨rfl,h0,rfl,rfl⟩
theorem Wna (h:HI H held s0)(hg:H.bQ[t]?=some g)(hph:g.ph=some .fill){cl sz:Int}(hr:Rq H.tb g .fill cl sz):iU H t .fill/\tH H t .fill cl sz:=by
 have L:=(cQ.1 hg).1;have i:=h.th g (h.mem hg);obtain⟨k,x,xs,A,K,d,P⟩:∃k x xs,g.bP=[(k,x::xs)]/\k<H.tb.length/\(g.li k).os=[]/\xs.length<=128:=by have:=i.ph;unfold iE at this;rw[hph]at this;exact this
 obtain⟨k',W,r,c,w,rfl,G,rfl⟩:=hr;rw[A]at w;obtain⟨j, -⟩:=List.cons.inj w;obtain rfl:k=k':=congrArg Prod.fst j;obtain⟨l,hl,u,D,N⟩:=i.li K;have p:=GJ hg;rw[u]at d;have m:(eL xs.reverse l).os=xs.reverse:=by unfold eL;rw[d,zA aE];simp
 have F:Wt H t .fill=({{H with live:=dF H.live x (x,(c.size:Int),(k:Int),YK H.bT x)}with bQ:=H.bQ.set t {ls:=g.ls.set k (eL xs.reverse l),bP:=[],ph:=g.ph}},none,x,0):=by
  simp only[Wt,p,A,Ue G,VG,ZM hg,u]
 have e:=Z5 L F;have z:1<=gZ g (k:Int) x:=by
  unfold gZ;rw[A,Kz,zB rfl];have:1<=(x::xs).count x:=CO.2 aA;simp only;omega
 have J:=h.qX (h.mem hg) z;have B:=h.mD (h.mem hg) z;obtain⟨Q,U⟩:=i.iK (k:=k) (x8 (xs:=xs.reverse) D) (by rw[m];simp;omega);have M:=h.kR hg (g':={ls:=g.ls.set k (eL xs.reverse l),bP:=[],ph:=none}) (live':=dF H.live x (x,(c.size:Int),(k:Int),YK H.bT x)) (λk' y=>by
  rw[C5 _ B];have E:=Ak hl (eL xs.reverse l) k' y;rw[d,m,List.count_reverse,List.count_nil]at E;have V:(x::xs).count y=[x].count y+xs.count y:=uI (l₁:=[x]) (l₂:=xs);unfold gZ;rw[hph,A];simp only[j8,Kz,VF];by_cases j:(k:Int)=k'
  ·simp only[j,zT]at E ⊢;omega
  ·simp only[j,zw]at E ⊢;omega)
  (Go.Vc.ig h.lk) (λX C=>by
   rcases(BF B).1 C with C|rfl
   ·exact .inl C
   ·exact .inr (h.xk J G))
  (λs a S=>by cases S) ⟨Q,U,λb R=>by simp at R,by simp,by unfold iE;rfl⟩
 refine⟨iU.mk' hg i.hl ⟨k,x,xs,[],by rw[p];exact A,K,(h.i63 J).1,by rw[p,u,d];simp;omega⟩ e M (KS.refl _),.inr (.inr ?_)⟩;rw[e,F];exact⟨rfl,rfl,B,rfl⟩
theorem Mr (h:HI H held s0)(hg:H.bQ[t]?=some g){m:Nat}(hph:g.ph=some (.eR m)){cl sz:Int}(hr:Rq H.tb g (.eR m) cl sz):iU H t (.eR m)/\tH H t (.eR m) cl sz:=by
 have K:=(cQ.1 hg).1;have b:=h.th g (h.mem hg);obtain⟨N,U,Q⟩:g.bP=[]/\1<=m/\m<=64:=by have:=b.ph;unfold iE at this;rw[hph]at this;exact this
 obtain⟨rfl,rfl⟩:=hr;have M:=h.eN t;have ga:=h.wi.ga _ _ M;obtain⟨W,Y,R,P,B⟩:=h.la.cD (H.eN t) (m:Int) 1;have wi:=h.wi.wz M (m:Int) 1;rw[show(Wd.mk H.tb s0 H.bT held).sp=s0 from rfl,←W,←Y,←R]at wi;by_cases h0:Qz (H.eN t) H.sp (m:Int) 1=0
 ·rw[zB h0]at wi;have j:=Aw wi;have A:=EC (held:=held) (new:=[(⟨H.own t, -1,Z6 (H.eN t) H.sp (m:Int) 1*256,(m:Int).toNat*256,false⟩:Pc)]) (cl:=-1) (l:=[((Z6 (H.eN t) H.sp (m:Int) 1*256:Nat):Int)]) (λp d=>by
   simp only[zW]at d;subst d;exact⟨rfl,rfl,by simp⟩) λx C=>by
   simp only[zW]at C;subst C;exact⟨_,zW.2 rfl,rfl⟩
  have i:(⟨H.own t, -1,Z6 (H.eN t) H.sp (m:Int) 1*256,(m:Int).toNat*256,false⟩:Pc)∈held++[(⟨H.own t, -1,Z6 (H.eN t) H.sp (m:Int) 1*256,(m:Int).toNat*256,false⟩:Pc)]:=by simp
  have J:=wi.size_pos i;have u:=wi.kb i;have F:=wi.owner i (x:=Z6 (H.eN t) H.sp (m:Int) 1*256) (zD _) (by simp only at J ⊢;omega);generalize D:Z6 (H.eN t) H.sp (m:Int) 1=V at *;have r:bV H.live ((V*256:Nat):Int)=none:=h.tx λE S=>j _ (zW.2 rfl) E S;have w:Wt H t (.eR m)=({{H.cB (H.own t) (cD (H.eN t) H.sp (m:Int) 1).1 with sp:=(cD (H.eN t) H.sp (m:Int) 1).2,live:=dF H.live ((V*256:Nat):Int) (((V*256:Nat):Int),((m*256:Nat):Int), -1,YK (H.bT.set (H.own t) (cD (H.eN t) H.sp (m:Int) 1).1) ((V*256:Nat):Int))}with bQ:=H.bQ.set t g},none,((V*256:Nat):Int),0):=by
   have:H.bQ.set t g=H.bQ:=Ql hg;rw[this];simp only[Wt,h0,zT,Hw.cB,VG,D]
  have e:=Z5 (H1:={H.cB (H.own t) (cD (H.eN t) H.sp (m:Int) 1).1 with sp:=(cD (H.eN t) H.sp (m:Int) 1).2,live:=dF H.live ((V*256:Nat):Int) (((V*256:Nat):Int),((m*256:Nat):Int), -1,YK (H.bT.set (H.own t) (cD (H.eN t) H.sp (m:Int) 1).1) ((V*256:Nat):Int))}) K w;have G:=h.fO hg (g':={g with ph:=none}) (live':=dF H.live ((V*256:Nat):Int) (((V*256:Nat):Int),((m*256:Nat):Int), -1,YK (H.bT.set (H.own t) (cD (H.eN t) H.sp (m:Int) 1).1) ((V*256:Nat):Int))) wi P B.l (by simp[Wd.put]) (F7 wi) (λE y=>by
   rw[C5 _ r,C4 (l:=[((V*256:Nat):Int)]) (cl:=-1) aA (λy L=>by
    simp only[zW]at L;subst L;exact j _ (zW.2 rfl) _) A]
   unfold gZ;rw[hph];simp only[j8];omega) (Go.Vc.ig h.lk) (λX z=>by
    rcases(BF r).1 z with z|rfl
    ·exact .inl z
    ·refine .inr ⟨rfl,_,i,rfl,rfl,rfl,?_,?_⟩
     ·simp
     ·exact F) (λs a d=>by cases d) ⟨b.ll,b.lo,b.hb,b.hl,by
    unfold iE;exact N⟩
  refine⟨iU.mk' hg b.hl ?_ e G B,.inr (.inr ?_)⟩
  ·show Z6 (H.eN t) H.sp (m:Int) 1<=1000000;rw[D];simp only at u;omega
  ·rw[e,w];exact⟨rfl,rfl,r,rfl⟩
 ·rw[zA h0]at wi;have D:Z6 (H.eN t) H.sp (m:Int) 1=0:=by
   unfold Qz at h0;unfold Z6;split
   ·rename_i d;rw[d,zB rfl]at h0;split at h0
    ·exact(h0 rfl).elim
    ·rename_i hn;cases C:(cZ (H.eN t) H.sp (m:Int).toNat (1:Int).toNat 41).1 with
     | none=>rfl
     | some y=>rw[C]at hn;simp at hn
   ·rfl
  have w:Wt H t (.eR m)=({{H.cB (H.own t) (cD (H.eN t) H.sp (m:Int) 1).1 with sp:=(cD (H.eN t) H.sp (m:Int) 1).2}with bQ:=H.bQ.set t g},none,0,Qz (H.eN t) H.sp (m:Int) 1):=by
   have:H.bQ.set t g=H.bQ:=Ql hg;rw[this];simp only[Wt,h0,zw,Hw.cB]
  have e:=Z5 (H1:={H.cB (H.own t) (cD (H.eN t) H.sp (m:Int) 1).1 with sp:=(cD (H.eN t) H.sp (m:Int) 1).2}) K w;have G:=h.fO hg (g':={g with ph:=none}) (live':=H.live) wi P B.l (by simp[Wd.put]) (λp d _=>.inl d) (λE y=>by
   unfold gZ;rw[hph];simp only[j8]) h.lk (λX z=>.inl z) (λs a d=>by cases d) ⟨b.ll,b.lo,b.hb,b.hl,by
    unfold iE;exact N⟩
  refine⟨iU.mk' hg b.hl ?_ e G B,.inr (.inl ?_)⟩
  ·show Z6 (H.eN t) H.sp (m:Int) 1<=1000000;rw[D];omega
  ·rw[e,w];exact⟨rfl,h0,rfl,rfl⟩
theorem NX {W:Wd}(h:WI W)(hk:W.bT[k]?=some A){j:Nat}{l:List Int}(hl:∀x∈l,∃p∈W.held,mE k (j:Int) x p=true)(hn:l.Nodup)(hj:j<W.tb.length):QW A (j:Int) l=0/\WI (W.put k (Ze A (j:Int) l) W.sp (W.held.filter λp=>!eI k (j:Int) l p)):=by
 have ga:=h.ga k A hk;have g:jR W.held k (j:Int) l=true:=KA.2 ⟨hl,hn⟩;obtain⟨c,y,_,d,_⟩:=ga.cl (k:=j) (by rw[h.tb k A hk];exact hj);have e:QW A (j:Int) l=0:=by
  rw[Gg ga d];refine Ih ⟨λx i=>?_,hn⟩;obtain⟨p,s,b⟩:=hl x i;obtain⟨u,m,r,w⟩:=KE.1 b;obtain⟨_,_,_,a,_⟩:=h.cls s m (by rw[u];exact hk);rw[r]at a;exact(KR d).1 a
 refine⟨e,?_⟩;have:=h.TF hk g;rw[zB e,h.yk g]at this;exact this
theorem I2 {xs:List Int}{tb:List bW}{ars0:List AR}(hH:H.tb=tb)(h:WI ⟨tb,s0,H.bT,held⟩)(hk:k<tb.length)(hxs:∀x∈xs,Um held (k:Int) x)(hn:xs.Nodup)(ha:∀p∈held,YK ars0 (p.addr:Int)=(p.k:Int)):∀j,j<=H.bT.length →
 ∃ars',Vj H k (ZW ars0 xs) (List.range j) = {H with bT:=ars'}/\ars'.length=H.bT.length/\WI ⟨tb,s0,ars',held.filter λp=>!(decide (p.k<j)&&(p.cls==(k:Int)&&xs.contains (p.addr:Int)))⟩
 | 0,_=>by
  refine⟨H.bT,rfl,rfl,?_⟩;have:(held.filter λp=>!(decide (p.k<0)&&(p.cls==(k:Int)&&xs.contains (p.addr:Int))))=held:=oz.2 λp _=>by simp
  rw[this];exact h
 | j+1,hj=>by
  obtain⟨ars',e,s,m⟩:=I2 hH h hk hxs hn ha j O;rw[Vf,e];have r:ars'[j]?=some (ars'[j]' O):=cM _;simp only[r];have DW:∀{p:Pc},p∈held->p.k=j->((p.addr:Int)∈ZW ars0 xs j↔(p.addr:Int)∈xs):=λ{p} b a=>by
   unfold ZW;rw[zH,ha p b,a];simp
  have d:((held.filter λp=>!(decide (p.k<j)&&(p.cls==(k:Int)&&xs.contains (p.addr:Int)))).filter λp=>!eI j (k:Int) (ZW ars0 xs j) p)=held.filter λp=>!(decide (p.k<j+1)&&(p.cls==(k:Int)&&xs.contains (p.addr:Int))):=by
   rw[CX];apply Ac;intro p b;have A:eI j (k:Int) (ZW ars0 xs j) p=(p.k==j&&(p.cls==(k:Int)&&xs.contains (p.addr:Int))):=by
    unfold eI;by_cases a:p.k=j
    ·have:=DW b a;have C:(ZW ars0 xs j).contains (p.addr:Int)=xs.contains (p.addr:Int):=by
      rw[nG,tu,tu];exact this
     rw[C]
    ·have:(p.k==j)=false:=by simpa using a
     rw[this];rfl
   rw[A];have y:decide (p.k<j+1)=(decide (p.k<j)||p.k==j):=by
    rw[nG];simp;omega
   rw[y];cases p.k==j<;>cases decide (p.k<j)<;>cases(p.cls==(k:Int)&&xs.contains (p.addr:Int))<;>rfl
  by_cases b:ZW ars0 xs j=[]
  ·rw[zB b];refine⟨ars',rfl,s,?_⟩;rw[←d,b];have:∀p:Pc,(!eI j (k:Int) [] p)=true:=λp=>by simp[eI]
   rw[oz.2 λp _=>this p];exact m
  ·rw[zA b];refine⟨ars'.set j (Ze (ars'[j]' O) (k:Int) (ZW ars0 xs j)),by simp[Hw.cB],by simp[s],?_⟩;rw[←d];refine(NX m r (j:=k) (l:=ZW ars0 xs j) (λx u=>?_) (hn.sublist sq) hk).2;unfold ZW at u;obtain⟨i,g⟩:=zH.1 u;obtain⟨p,b,B,z,w⟩:=hxs x i;have a:p.k=j:=by
    have:=ha p b;rw[w]at this;rw[this]at g;have:(p.k:Int)=(j:Int):=by simpa using g
    omega
   exact⟨p,zH.2 ⟨b,by simp[a]⟩,KE.2 ⟨a,z,w,B⟩⟩
theorem Ξ {tb:List bW}(hH:H.tb=tb)(h:WI ⟨tb,s0,H.bT,held⟩){own:Nat}(hown:own<H.bT.length)(hk:k<tb.length){xs:List Int}(hxs:∀x∈xs,Um held (k:Int) x)(hn:xs.Nodup) :
 ∃ars' held',Gh H own k xs = {H with bT:=ars'}/\ars'.length=H.bT.length/\WI ⟨tb,s0,ars',held'⟩/\(∀c x,Um held' c x↔Um held c x/\¬(c=(k:Int)/\x∈xs))/\∀p∈held',p.dZ=false->p∈held:=by
 have r:H.bT[own]?=some H.bT[own]:=cM hown;have y:∀p∈held,YK H.bT (p.addr:Int)=(p.k:Int):=λp a=>h.owner a (zD _) (by have:=(h.size_pos a).1;omega);have all:∃ars' held',Vj H k (ZW H.bT xs) (List.range H.bT.length) = {H with bT:=ars'}/\ars'.length=H.bT.length/\WI ⟨tb,s0,ars',held'⟩/\(∀c x,Um held' c x↔Um held c x/\¬(c=(k:Int)/\x∈xs))/\∀p∈held',p.dZ=false->p∈held:=by
  obtain⟨ars',e,s,j⟩:=I2 hH h hk hxs hn y H.bT.length (zD _);refine⟨ars',_,e,s,j,λc x=>?_,λp a _=>(zH.1 a).1⟩;constructor
  ·rintro⟨p,a,i,g,d⟩;obtain⟨a,hf⟩:=zH.1 a;refine⟨⟨p,a,i,g,d⟩,?_⟩;rintro⟨rfl,b⟩;obtain⟨B,z,_⟩:=h.hf p a;have u:p.k<H.bT.length:=(cQ.1 z).1;rw[g,d]at hf;simp[u,b]at hf
  ·rintro⟨⟨p,a,i,g,d⟩,hno⟩;refine⟨p,zH.2 ⟨a,?_⟩,i,g,d⟩;rw[g,d];by_cases hc:c=(k:Int)
   ·have:x∉xs:=λb=>hno ⟨hc,b⟩;simp[this]
   ·simp[hc]
 unfold Gh;rw[r];simp only;by_cases hcond:(ZW H.bT xs own).length=xs.length/\Vi H.bT[own] (k:Int) xs=true
 ·rw[zB hcond];have m:∀x∈xs,YK H.bT x=(own:Int):=by
   have i:ZW H.bT xs own=xs:=by
    unfold ZW at hcond ⊢;exact List.filter_sublist.eq_of_length hcond.1
   intro x b;rw[←i]at b;unfold ZW at b;simpa using(zH.1 b).2
  have w:jR held own (k:Int) xs=true:=KA.2 ⟨λx b=>by
   obtain⟨p,a,i,g,d⟩:=hxs x b;have C:=y p a;rw[d,m x b]at C;exact⟨p,a,KE.2 ⟨O,g,d,i⟩⟩,hn⟩
  have j:=h.T0 r w;rw[zB hcond.2]at j;exact⟨_,_,rfl,by simp[Hw.cB],j,MJ h w,TO⟩
 ·rw[zA hcond];have e:(if(ZW H.bT xs own).length=xs.length then H.cB own (Q9 H.bT[own] (k:Int) xs)else H)=H:=by
   split
   ·rename_i s;have A:Vi H.bT[own] (k:Int) xs=false:=by
     apply mS.2;intro b;exact hcond ⟨s,b⟩
    have:Q9 H.bT[own] (k:Int) xs=H.bT[own]:=by unfold Q9;rw[A];rfl
    rw[this];exact Jp r
   ·rfl
  rw[e];exact all
def mP:Ph->Prop
 | .find _=>True
 | .put _ _=>True
 | .back=>True
 | .dI _ _=>True
 | .drain=>True
 | _=>False
def qp (g:Th):Ph->Nat
 | .find _=>101
 | .put _ _=>100
 | .drain=>100
 | .back=>g.bP.length
 | _=>0
def nR (H:Hw)(t:Nat)(g:Th)(p:Ph):Prop:=(Wt H t p).2.2.1=0 ∧
 ((∃p' g',(Wt H t p).2.1=some p'/\mP p'/\(∀x,p'≠.find x)/\(QP H t p).bQ[t]?=some g'/\qp g' p'<qp g p)\/(Wt H t p).2.1=none) ∧
 ((∀x,p≠.find x)->(Wt H t p).2.2.2=0/\(QP H t p).live=H.live) ∧
 (∀x,p=.find x->(bV H.live x=none->(Wt H t p).2.1=none/\(Wt H t p).2.2.2≠0/\(QP H t p).live=H.live)/\(∀b,bV H.live x=some b->(Wt H t p).2.2.2=0/\(QP H t p).live=cT H.live x))
theorem Bg (hg:H.bQ[t]?=some g):kA H t=if g.bP=[]then none else some .back:=by unfold kA;rw[hg]
theorem Tw (h:HI H held s0)(hg:H.bQ[t]?=some g){x:Int}(hph:g.ph=some (.find x)):iU H t (.find x)/\nR H t g (.find x):=by
 have E:=(cQ.1 hg).1;have d:=h.th g (h.mem hg);obtain⟨N,C⟩:g.bP=[]/\iO x:=by have:=d.ph;unfold iE at this;rw[hph]at this;exact this
 have U:∀A∈H.bT,jb A:=λA R=>by
  obtain⟨j,hj⟩:=zN R;exact(h.wi.ga j A hj).pn
 cases hm:bV H.live x with
 | none=>
  have w:Wt H t (.find x)=({H with bQ:=H.bQ.set t g},none,0,mG H x):=by
   have:H.bQ.set t g=H.bQ:=Ql hg;rw[this];simp only[Wt,UZ,hm]
  have e:=Z5 E w;have G:=h.kR hg (g':={g with ph:=none}) (live':=H.live) (λD x=>by
   unfold gZ;rw[hph];simp only[j8]) h.lk (λY K=>.inl K) (λs a P=>by cases P) ⟨d.ll,d.lo,d.hb,d.hl,by
    unfold iE;exact N⟩
  refine⟨iU.mk' hg d.hl ⟨C,λ_=>U,λb hb=>by rw[hm]at hb;cases hb⟩ e G (KS.refl _),?_⟩;unfold nR;rw[e,w];refine⟨rfl,.inr rfl,λi=>(i x rfl).elim,λy m=>?_⟩;cases m;refine⟨λ_=>⟨rfl,?_,rfl⟩,(λb hb=>by rw[hm]at hb;cases hb)⟩;show mG H x≠0;unfold mG
  repeat' split
  all_goals simp
 | some b=>
  have Q:=KX hm;obtain⟨_,p,P,h1,S,X,h4,W⟩:=h.lv _ Q;simp only at S X h4 W;have V:0<=x:=by omega
  obtain⟨A,R,hd⟩:=h.wi.hf p P;have Z:uQ H t (.find x):=⟨C,(λi=>by rw[hm]at i;cases i),λ_ _=>V⟩;rcases hd with⟨c1,_,r,hr,c2,c3⟩|⟨j,c,c1,c2,c3,_⟩
  ·have M:b.2.2.1 = -1:=by rw[←S,c1]
   have w:Wt H t (.find x)=({{H with live:=cT H.live x}with bQ:=H.bQ.set t g},some (.dI (x/256) b.2.2.2),0,0):=by
    have:H.bQ.set t g=H.bQ:=Ql hg;rw[this];simp only[Wt,UZ,hm];rw[zB O]
   have e:=Z5 (H1:={H with live:=cT H.live x}) E w;have u:x/256*256=x:=by omega
   have G:=h.kR hg (g':={g with ph:=some (.dI (x/256) b.2.2.2)}) (live':=cT H.live x) (λD y=>by
    have z:=Ay h.lk hm D y;rw[M]at z;unfold gZ;rw[hph];simp only[j8,u];by_cases m:x=y
    ·subst m;rw[C0]at z;by_cases hk : -1=D
     ·rw[zB hk]at z;rw[zB ⟨hk.symm,rfl⟩];omega
     ·rw[zA hk]at z;rw[zA (λC=>hk C.1.symm)];omega
    ·have:[x].count y=0:=xO.2 aE;rw[this]at z;rw[zA (λC=>m C.2.symm)];split at z<;>omega)
    (Go.Vc.jK h.lk) (λY K=>.inl (A4.1 K).1) (λs a B=>by
     cases B;exact⟨p,P,h1,c1,by rw[u];exact X,W⟩) ⟨d.ll,d.lo,d.hb,d.hl,by
      unfold iE;exact N⟩
   refine⟨iU.mk' hg d.hl Z e G (KS.refl _),?_⟩;unfold nR;rw[e,w];refine⟨rfl,.inl ⟨_,_,rfl,trivial,(λy m=>by cases m),zM E,by simp[qp]⟩,λi=>(i x rfl).elim,λy m=>?_⟩;cases m;exact⟨(λi=>by rw[hm]at i;cases i),λ_ _=>⟨rfl,rfl⟩⟩
  ·have J:b.2.2.1=(j:Int):=by rw[←S,c1]
   have F:j<H.tb.length:=by
    rw[h.wi.tb _ _ R]at c2;exact(cQ.1 c2).1
   have w:Wt H t (.find x)=({{H with live:=cT H.live x}with bQ:=H.bQ.set t {g with bP:=[(j,[x])]}},some (.put j x),0,0):=by
    simp only[Wt,UZ,hm];rw[zA O,J,dC];unfold QR;rw[ZM (g:=g) (by exact hg),N];rfl
   have e:=Z5 (H1:={H with live:=cT H.live x}) E w;have G:=h.kR hg (g':={g with bP:=[(j,[x])],ph:=some (.put j x)}) (live':=cT H.live x) (λD y=>by
    have z:=Ay h.lk hm D y;rw[J]at z;unfold gZ;rw[hph,N];simp only[j8,Kz,VF];omega)
    (Go.Vc.jK h.lk) (λY K=>.inl (A4.1 K).1) (λs a B=>by cases B) ⟨d.ll,d.lo,λb' L=>by
     simp only[zW]at L;subst L;exact⟨F,by simp,by simp⟩,by simp,by
     unfold iE;exact⟨rfl,F⟩⟩
   refine⟨iU.mk' hg d.hl Z e G (KS.refl _),?_⟩;unfold nR;rw[e,w];refine⟨rfl,.inl ⟨_,_,rfl,trivial,(λy m=>by cases m),zM E,by simp[qp]⟩,λi=>(i x rfl).elim,λy m=>?_⟩;cases m;exact⟨(λi=>by rw[hm]at i;cases i),λ_ _=>⟨rfl,rfl⟩⟩
theorem EG {f:bW->Li->List Int×Li}{tb:List bW}{ls:List Li}{b:Bt}(h:b∈Kb f tb ls):b.1<tb.length/\b.2≠[]/\∃c∈tb,∃l∈ls,b.2=(f c l).1:=by
 unfold Kb at h;obtain⟨k,d,a⟩:=vw.1 h;split at a
 ·rename_i c l hc hl;split at a
  ·cases a
  ·cases a;exact⟨zU.1 d,by assumption,c,zE hc,l,zE hl,rfl⟩
 ·cases a
theorem EI {f:bW->Li->List Int×Li}{tb:List bW}{ls:List Li}{l':Li}(h:l'∈Q6 f tb ls):∃c∈tb,∃l∈ls,l'=(f c l).2:=by
 unfold Q6 at h;obtain⟨i,a⟩:=zN h;rw[DM]at a;split at a
 ·rename_i c l hc hl;cases a;exact⟨c,zE hc,l,zE hl,rfl⟩
 ·cases a
theorem Ld {f:bW->Li->List Int×Li}{tb:List bW}{ls:List Li}(h:ls.length=tb.length):(Q6 f tb ls).length=tb.length:=by
 unfold Q6;rw[List.length_zipWith];omega
theorem Ja (c:bW)(l:Li):(KH c l).2.os.length<=l.os.length/\(KH c l).1.length<=l.os.length:=by
 simp only[KH,gT,zr,zO];omega
theorem Fg (c:bW)(l:Li):(ZX c l).2.os.length<=l.os.length/\(ZX c l).1.length<=l.os.length:=by
 simp only[ZX,gT,zr,zO];omega
theorem SN (h:HI H held s0)(hg:H.bQ[t]?=some g)(hph:g.ph=some .drain):iU H t .drain/\nR H t g .drain:=by
 have m:=(cQ.1 hg).1;have d:=h.th g (h.mem hg);have D:g.bP=[]:=by have:=d.ph;unfold iE at this;rw[hph]at this;exact this
 have K:=h.lZ;have J:=Dy ZX H.tb g.ls;have u:Wt H t .drain=({H with bQ:=H.bQ.set t {g with ls:=Q6 ZX H.tb g.ls,bP:=Kb ZX H.tb g.ls}},(if Kb ZX H.tb g.ls=[]then none else some .back),0,0):=by
  simp only[Wt,ZM hg];rw[Bg (g:={g with ls:=Q6 ZX H.tb g.ls,bP:=Kb ZX H.tb g.ls}) (by simp[m])]
 have e:=Z5 m u;have z:=h.kR hg (g':={ls:=Q6 ZX H.tb g.ls,bP:=Kb ZX H.tb g.ls,ph:=if Kb ZX H.tb g.ls=[]then none else some .back}) (live':=H.live) (λr x=>by
  have L:=Le (f:=ZX) Rt d.ll r x;unfold gZ;rw[hph,D];have:j8 (if Kb ZX H.tb g.ls=[]then none else some Ph.back) r x=0:=by split<;>rfl
  simp only[this,VF];simp only[j8];omega) h.lk (λM C=>.inl C) (λs a p=>by
   simp only at p;split at p<;>cases p) ⟨Ld d.ll,λl hl=>by
   obtain⟨c,_,j,i,rfl⟩:=EI hl;have:=d.lo j i;have:=Fg c j;exact⟨PD (d.lo j i).1,O⟩,λb E=>by
   obtain⟨B,F,c,_,j,i,G⟩:=EG E;have:=d.lo j i;have:=Fg c j;exact⟨B,F,by rw[G];omega⟩,by simp only;omega,by
   unfold iE;by_cases ho:Kb ZX H.tb g.ls=[]
   ·rw[zB ho];exact ho
   ·rw[zA ho];exact ho⟩
 refine⟨iU.mk' hg d.hl trivial e z (KS.refl _),?_⟩;unfold nR;rw[e,u];refine⟨rfl,?_,λ_=>⟨rfl,rfl⟩,λx A=>by cases A⟩;by_cases ho:Kb ZX H.tb g.ls=[]
 ·exact .inr (by simp only;rw[zB ho])
 ·exact .inl ⟨.back,_,by simp only;rw[zA ho],trivial,(λy w=>by cases w),zM m,by simp only[qp];omega⟩
theorem OX (h:HI H held s0)(hg:H.bQ[t]?=some g){s a:Int}(hph:g.ph=some (.dI s a)):iU H t (.dI s a)/\nR H t g (.dI s a):=by
 have M:=(cQ.1 hg).1;have b:=h.th g (h.mem hg);have R:g.bP=[]:=by have:=b.ph;unfold iE at this;rw[hph]at this;exact this
 obtain⟨p,C,Z,P,X,Y⟩:=h.gv g (h.mem hg) s a hph;obtain⟨A,u,_⟩:=h.wi.hf p C;have z:H.bT[p.k]?=some A:=u;have U:=(cQ.1 z).1;obtain⟨_,r,K,c2,W⟩:=h.wi.run C P u;have ga:=h.wi.ga _ _ u;have d:s=(r.1:Int):=by omega
 have S:KQ A s=0:=by
  unfold KQ;rw[zB];unfold qC;rw[CZ];exact⟨r,K,by simp[d]⟩
 have E:jR held p.k (-1) [s*256]=true:=by rw[d];exact h.wi.nL u K
 have wi:=h.wi.wH u s;rw[zB S,h.wi.yk E]at wi;have y:a.toNat=p.k:=by omega
 have G:Wt H t (.dI s a)=({H.cB p.k (QG A s)with bQ:=H.bQ.set t g},none,0,0):=by
  have:H.bQ.set t g=H.bQ:=Ql hg;rw[this];simp only[Wt,y,z,Hw.cB]
 have e:=Z5 (H1:=H.cB p.k (QG A s)) M G;have N:=h.fO hg (g':={g with ph:=none}) (live':=H.live) wi h.la rfl (by simp[Wd.put]) (λq F _=>.inl (zH.1 F).1) (λm x=>by
  have i:=FP (held':=held.filter λD=>!eI p.k (-1) [s*256] D) (l:=[s*256]) (cl:=-1) aA (Rx E) (WnI h.wi E) m x;have i:kV held m x=kV (held.filter λD=>!eI p.k (-1) [s*256] D) m x+(if -1=m then[s*256].count x else 0):=i
  unfold gZ;rw[hph];simp only[j8];by_cases hy:s*256=x
  ·subst hy;rw[C0]at i;by_cases hk : -1=m
   ·rw[zB hk]at i;rw[zB ⟨hk.symm,rfl⟩];omega
   ·rw[zA hk]at i;rw[zA (λw=>hk w.1.symm)];omega
  ·have:[s*256].count x=0:=xO.2 aE;rw[this]at i;rw[zA (λw=>hy w.2.symm)];split at i<;>omega) h.lk (λe' Q=>.inl Q) (λs a C=>by cases C) ⟨b.ll,b.lo,b.hb,b.hl,by
   unfold iE;exact R⟩
 refine⟨iU.mk' hg b.hl ⟨O,O,λB L q F=>?_⟩ e N (KS.refl _),?_⟩
 ·obtain⟨j,V⟩:=zN L;have J:=h.wi.ga j B V;have:=J.fit F;have:=J.pg.n2;omega
 ·unfold nR;rw[e,G];exact⟨rfl,.inr rfl,λ_=>⟨rfl,rfl⟩,λx w=>by cases w⟩
theorem Pp (h:HI H held s0)(hg:H.bQ[t]?=some g)(hph:g.ph=some .back):iU H t .back/\nR H t g .back:=by
 have D:=(cQ.1 hg).1;have d:=h.th g (h.mem hg);have R:g.bP≠[]:=by have:=d.ph;unfold iE at this;rw[hph]at this;exact this
 have w:=GJ hg;cases hhd:g.bP with
 | nil=>exact(R hhd).elim
 | cons b r=>
  obtain⟨k,A⟩:=b;obtain⟨L,C,E⟩:=d.hb (k,A) (by rw[hhd];simp);simp only at L C E;have m:∀x,A.count x<=gZ g (k:Int) x:=λx=>by
   unfold gZ;rw[hhd,Kz,zB rfl];simp only;omega
  have i:∀x∈A,Um held (k:Int) x:=λx u=>h.qX (h.mem hg) (zI (CO.2 u) (m x));have z:A.Nodup:=Cg.2 λx=>by
   have S:=m x;have V:=h.p7 (h.mem hg) (k:Int) x;have W:=Lj held (k:Int) x;omega
  obtain⟨j,G,U,F,wi,um,sub⟩:=Ξ (H:={H with bQ:=H.bQ.set t {g with bP:=r}}) (tb:=H.tb) rfl h.wi (h.kh t) L i z;have K:Wt H t .back=({{H with bT:=j}with bQ:=H.bQ.set t {g with bP:=r}},(if r=[]then none else some .back),0,0):=by
   simp only[Wt,w,hhd,ZM hg,U];rw[Bg (g:={g with bP:=r}) (by simp[D])]
  have e:=Z5 (H1:={H with bT:=j}) D K;have N:=h.fO hg (g':={g with bP:=r,ph:=if r=[]then none else some .back}) (live':=H.live) wi h.la rfl F (λp B P=>.inl (sub p B P)) (λJ x=>by
   have S:=FP z i um J x;unfold gZ;rw[hph,hhd,Kz];have:j8 (if r=[]then none else some Ph.back) J x=0:=by split<;>rfl
   simp only[this];simp only[j8];omega) h.lk (λX Q=>.inl Q) (λs a B=>by
    simp only at B;split at B<;>cases B) ⟨d.ll,d.lo,λb hb=>d.hb b (by rw[hhd];exact kL _ hb),by have:=d.hl;rw[hhd]at this;simp at this ⊢;omega,by
    unfold iE;by_cases ho:r=[]
    ·rw[zB ho];exact ho
    ·rw[zA ho];exact ho⟩
  refine⟨iU.mk' hg d.hl ⟨k,A,r,by rw[w];exact hhd,λx u=>⟨(h.i63 (i x u)).1,(h.i63 (i x u)).2.2⟩,O⟩ e N (KS.refl _),?_⟩;unfold nR;rw[e,K];refine⟨rfl,?_,λ_=>⟨rfl,rfl⟩,λx u=>by cases u⟩;by_cases ho:r=[]
  ·exact .inr (by simp only;rw[zB ho])
  ·exact .inl ⟨.back,_,by simp only;rw[zA ho],trivial,(λy M=>by cases M),zM D,by simp only[qp];rw[hhd];simp⟩
theorem SE (h:HI H held s0)(hg:H.bQ[t]?=some g){x:Int}(hph:g.ph=some (.put k x)):iU H t (.put k x)/\nR H t g (.put k x):=by
 have B:=(cQ.1 hg).1;have r:=h.th g (h.mem hg);obtain⟨J,L⟩:g.bP=[(k,[x])]/\k<H.tb.length:=by have:=r.ph;unfold iE at this;rw[hph]at this;exact this
 obtain⟨c,hc,D⟩:=h.cls L;obtain⟨l,hl,N,E,hlm⟩:=r.li L;have C:=GJ hg;have h40:=h.lZ;have U:=Se (x:=x) D E;have R:=Wm8 c x l O;have Z:(dP c x l).1.length<=129/\(dP c x l).2.os.length<=128:=by
  have hlim:=E.lim;have w:(eL [x] l).os=l.os++[x]:=by unfold eL;rw[zA aE]
  have V:(m9 c (eL [x] l)).os=l.os++[x]:=by rw[←w];unfold m9;split<;>rfl
  unfold bW.ok at D;unfold dP;rw[zA O];split
  ·rw[w];simp;omega
  ·simp only[gT,V,zO,zr,zK,tZ];omega
 obtain⟨Q,Y⟩:=r.iK (k:=k) U Z.2;have M:∃hs:List Bt,(if(dP c x l).1=[]then[]else[(k,(dP c x l).1)])=hs:=⟨_,rfl⟩
 obtain⟨i,j⟩:=M;have hs2l:i.length<=1:=by rw[←j];split<;>simp
 have z:∀b∈i,b.1<H.tb.length/\b.2≠[]/\b.2.length<=256:=λb m=>by
  rw[←j]at m;split at m
  ·simp at m
  ·simp only[zW]at m;subst m;exact⟨L,by assumption,by simp only;omega⟩
 have G:∀d y,mL i d y=if(k:Int)=d then(dP c x l).1.count y else 0:=λd y=>by
  rw[←j];split
  ·rename_i hn;rw[hn,VF];simp
  ·simp only[Kz,VF,zq]
 let g3:Th:={g with ls:=g.ls.set k (dP c x l).2,bP:=i}
 let g4:Th:=if H.cf.dA<Qt H.tb g3.ls then{g3 with ls:=Q6 KH H.tb g3.ls,bP:=g3.bP++Kb KH H.tb g3.ls}else g3
 have P:iJ H t k x = {H with bQ:=H.bQ.set t g4}:=by
  have e2:(if(dP c x l).1=[]then H.eA t λh=>h.iK k (dP c x l).2 else QR (H.eA t λh=>h.iK k (dP c x l).2) t k (dP c x l).1) = {H with bQ:=H.bQ.set t {g with ls:=g.ls.set k (dP c x l).2,bP:=(k,[x])::i}}:=by
   rw[←j];split
   ·rw[ZM hg,←J];rfl
   ·rw[ZM hg];unfold QR;rw[ZM (g:=g.iK k (dP c x l).2) (by simp[B])];simp only[ot,Th.iK,J];rfl
  have e3:({H with bQ:=H.bQ.set t {g with ls:=g.ls.set k (dP c x l).2,bP:=(k,[x])::i}}:Hw).eA t (λh=>{h with bP:=h.bP.drop 1}) = {H with bQ:=H.bQ.set t g3}:=by
   rw[ZM (g:={g with ls:=g.ls.set k (dP c x l).2,bP:=(k,[x])::i}) (by simp[B])];simp only[ot,yw,List.drop_zero];rfl
  have u:({H with bQ:=H.bQ.set t g3}:Hw).bQ[t]?=some g3:=by simp[B]
  unfold iJ;simp only[Ue hc,C,N,e2,e3,GJ u,ZM u,ot];show(if H.cf.dA<Qt H.tb g3.ls then _ else _)=_
  simp only[g4];split<;>rfl
 have hg4:g4.ph=g.ph:=by simp only[g4];split<;>rfl
 have W:∀d y,mn g4.ls d y+mL g4.bP d y=mn g.ls d y+mL g.bP d y:=λd y=>by
  have h1:=Ak hl (dP c x l).2 d y;have h2:=R y;have h3:mn g3.ls d y+mL g3.bP d y=mn g.ls d y+mL g.bP d y:=by
   simp only[g3];rw[G,J,Kz,VF];by_cases hkk:(k:Int)=d
   ·simp only[hkk,zT]at h1 ⊢;omega
   ·simp only[hkk,zw]at h1 ⊢;omega
  simp only[g4];split
  ·have h4:=Le (f:=KH) PH (tb:=H.tb) (ls:=g3.ls) Q d y;simp only[EL];omega
  ·exact h3
 have p:g4.ls.length=H.tb.length/\(∀l∈g4.ls,fQ l/\l.os.length<=128)/\(∀b∈g4.bP,b.1<H.tb.length/\b.2≠[]/\b.2.length<=256)/\g4.bP.length<=41:=by
  have hsl:=Dy KH H.tb g3.ls;simp only[g4];split
  ·refine⟨Ld Q,λl hl=>?_,λb m=>?_,by simp only[zK,g3]at *;omega⟩
   ·obtain⟨K,S,F,A,rfl⟩:=EI hl;have h5:=Y F A;have:=Ja K F;exact⟨Jw (h.ok K S) h5.1,O⟩
   ·rcases zR.1 m with m|m
    ·exact z b m
    ·obtain⟨b1,b2,K,_,F,A,b3⟩:=EG m;have h5:=Y F A;have:=Ja K F;exact⟨b1,b2,by rw[b3];omega⟩
  ·exact⟨Q,Y,z,by simp only[g3];omega⟩
 have hs:Wt H t (.put k x)=({H with bQ:=H.bQ.set t g4},(if g4.bP=[]then none else some .back),0,0):=by
  show(iJ H t k x,kA (iJ H t k x) t,0,0)=_;rw[P,Bg (g:=g4) (by simp[B])]
 have e:=Z5 B hs;have hi:=h.kR hg (g':={g4 with ph:=if g4.bP=[]then none else some .back}) (live':=H.live) (λd y=>by
  have h1:=W d y;unfold gZ;rw[hph];have:j8 (if g4.bP=[]then none else some Ph.back) d y=0:=by split<;>rfl
  simp only[this];simp only[j8];omega) h.lk (λe' he=>.inl he) (λs a X=>by
   simp only at X;split at X<;>cases X) ⟨p.1,p.2.1,p.2.2.1,p.2.2.2,by
   unfold iE;by_cases ho:g4.bP=[]
   ·simp only[ho,zT]
   ·simp only[ho,zw];exact ho⟩
 refine⟨iU.mk' hg r.hl ⟨L,by rw[C,J];simp⟩ e hi (KS.refl _),?_⟩;unfold nR;rw[e,hs];refine⟨rfl,?_,λ_=>⟨rfl,rfl⟩,λx hx=>by cases hx⟩;by_cases ho:g4.bP=[]
 ·exact .inr (by simp only;rw[zB ho])
 ·exact .inl ⟨.back,_,by simp only;rw[zA ho],trivial,(λy hy=>by cases hy),zM B,by simp only[qp];have:=p.2.2.2;omega⟩
end Go.Ar
namespace Go.Ar
open Go Go.Vc Go.Proofs
open Go.Bu (gG BV Du)
variable {σ u w w':Hp}{F B P Q:Rg}{L:dR}{H H':Hw}{t n:Nat}{g:Th}
def vA (size:Int):Int:=(size+255)/256*256
def qM (tb:List bW)(size align:Int):Int×Int:=
 if size<=16384/\Kr size align=true then(match gE tb size align with
  | some k=>((tb.getD k ⟨8,1,1⟩).size:Int)
  | none=>vA size,0)else(0,1)
theorem N1 {a:Int}(h1:1<=a)(h2:a<=256):(bits .and .i64 a (a-1) != 0) = !gG a:=by
 obtain⟨a,rfl⟩:=zi (show 0<=a by omega);rw[show(a:Int)-1=((a-1:Nat):Int) by omega,Go.Bu.jo O O,BV,←Du O O];simp only[bne,Bool.not_inj_iff];rw[nG];simp only[zX];omega
end Go.Ar
namespace Go.Ar
open Go Go.Vc Go.Proofs
variable {σ u w w':Hp}{F B P Q:Rg}{L:dR}{H H':Hw}{t n:Nat}{g:Th}
theorem Iq {tb:List bW}{size align:Int}{k:Nat}(h:gE tb size align=some k):k<tb.length:=(yp.1 h).1
end Go.Ar
namespace Go.Ar
open Go.Vc (bV dF cT)
variable {H H':Hw}{held:List Pc}{s0:Sp}{t k j:Nat}{g:Th}{A:AR}{c:bW}
theorem KD (f:Th->Th)(hj:j≠t):(H.eA t f).bQ[j]?=H.bQ[j]? := by
 simp[Hw.eA,tO,Ne.symm hj]
theorem SL (x:Int)(hj:j≠t):(iJ H t k x).bQ[j]?=H.bQ[j]? := by
 unfold iJ QR;simp only;split<;>split<;>simp only[KD _ hj]
theorem R4 (p:Ph)(hj:j≠t):(Wt H t p).1.bQ[j]?=H.bQ[j]? := by
 cases p with
 | take k=>simp only[Wt];split<;>simp only[VG,KD _ hj]
 | cN k w=>
  simp only[Wt];split
  ·split
   ·unfold QR;rw[KD _ hj];rfl
   ·rfl
  ·rfl
 | cP k w=>
  simp only[Wt];split
  ·rfl
  ·unfold QR;rw[KD _ hj];rfl
 | grow k w=>simp only[Wt];split<;>rfl
 | fill=>simp only[Wt];split<;>simp only[VG,KD _ hj]
 | eR m=>simp only[Wt];split<;>rfl
 | find x=>
  simp only[Wt,UZ];split
  ·rfl
  ·split
   ·rfl
   ·unfold QR;rw[KD _ hj]
 | put k x=>exact SL x hj
 | back=>
  simp only[Wt];split
  ·rw[CE,KD _ hj]
  ·rfl
 | dI s a=>simp only[Wt];split<;>rfl
 | drain=>simp only[Wt,KD _ hj]
theorem Hy (p:Ph)(hj:j≠t):(QP H t p).bQ[j]?=H.bQ[j]? := by
 unfold QP eU;rw[KD _ hj,R4 p hj]
def gW (H:Hw)(j:Nat):Option Ph:=(H.bQ[j]?).bind (·.ph)
def xr (H H':Hw)(t:Nat):Prop:=gW H' t=none/\∀j,j≠t->gW H' j=gW H j
theorem Bv (h:HI H held s0)(hg:H.bQ[t]?=some g){p:Ph}(hp:g.ph=some p){cl sz:Int}(hr:Rq H.tb g p cl sz):iU H t p/\tH H t p cl sz:=by
 cases p with
 | take k=>exact ω h hg hp hr
 | cN k w=>exact Mq h hg hp hr
 | cP k w=>exact Ol h hg hp hr
 | grow k w=>exact Rf h hg hp hr
 | fill=>exact Wna h hg hp hr
 | eR m=>exact Mr h hg hp hr
 | find x=>exact hr.elim
 | put k x=>exact hr.elim
 | back=>exact hr.elim
 | dI s a=>exact hr.elim
 | drain=>exact hr.elim
theorem DJ (h:HI H held s0)(hg:H.bQ[t]?=some g){p:Ph}(hp:g.ph=some p)(hf:mP p):iU H t p/\nR H t g p:=by
 cases p with
 | take k=>exact hf.elim
 | cN k w=>exact hf.elim
 | cP k w=>exact hf.elim
 | grow k w=>exact hf.elim
 | fill=>exact hf.elim
 | eR m=>exact hf.elim
 | find x=>exact Tw h hg hp
 | put k x=>exact SE h hg hp
 | back=>exact Pp h hg hp
 | dI s a=>exact OX h hg hp
 | drain=>exact SN h hg hp
theorem GZ {p:Ph}(ht:t<H.bQ.length):∃g',(QP H t p).bQ[t]?=some g'/\g'.ph=(Wt H t p).2.1:=EY ht
theorem Lq {cl sz:Int}:∀(n:Nat) {H:Hw} {held:List Pc} {s0:Sp} {g:Th} {p:Ph},HI H held s0->H.bQ[t]?=some g->g.ph=some p->Rq H.tb g p cl sz->pj H t p<=n →
 ∃m H' a e,iW m H t p H' a e/\(∃held s0,HI H' held s0)/\KS H.sp H'.sp/\xr H H' t/\((e≠0/\a=0/\H'.live=H.live)\/(e=0/\bV H.live a=none/\H'.live=dF H.live a (a,sz,cl,YK H'.bT a)))
 | n,H,held,s0,g,p,h,hg,hp,hr,hn=>by
  have ht:=(cQ.1 hg).1;obtain⟨s,E⟩:=Bv h hg hp hr;have b:(Wt H t p).2.1=none->xr H (QP H t p) t:=λC=>by
   obtain⟨G,w,z⟩:=GZ (p:=p) ht;exact⟨by unfold gW;rw[w];exact z.trans C,λj u=>by unfold gW;rw[Hy p u]⟩
  rcases E with⟨p',G,e1,e2,e3,e4,e5⟩|⟨e1,e2,e3,e4⟩|⟨e1,e2,e3,e4⟩
  ·obtain⟨y,D,F⟩:=s.hi;obtain⟨J,i,kB⟩:=GZ (p:=p) ht;rw[e3]at i;cases i;have x:(QP H t p).tb=H.tb:=(HQ H t p).1;have B:pj (QP H t p) t p'<n:=by omega
   obtain⟨m,H',a,e,r,hi,ks,A,d⟩:=Lq (pj (QP H t p) t p') F e3 (kB.trans e1) (by rw[x];exact e4) (zD _);refine⟨m+1,H',a,e,.next s.ok e1 r,hi,s.ks.trans ks,⟨A.1,λj u=>(A.2 j u).trans (by unfold gW;rw[Hy p u])⟩,?_⟩;rw[e2]at d;exact d
  ·exact⟨1,_,_,_,.done s.ok e1,s.hi,s.ks,b e1,.inl ⟨e2,e3,e4⟩⟩
  ·exact⟨1,_,_,_,.done s.ok e1,s.hi,s.ks,b e1,.inr ⟨e2,e3,e4⟩⟩
termination_by n=>n
theorem EZ:∀(n:Nat) {H:Hw} {held:List Pc} {s0:Sp} {g:Th} {p:Ph},HI H held s0->H.bQ[t]?=some g->g.ph=some p->mP p->qp g p<=n →
 ∃m H' e,iW m H t p H' 0 e/\(∃held s0,HI H' held s0)/\KS H.sp H'.sp/\xr H H' t/\((∀x,p≠.find x)->e=0/\H'.live=H.live) ∧
  (∀x,p=.find x->(bV H.live x=none->e≠0/\H'.live=H.live)/\(∀b,bV H.live x=some b->e=0/\H'.live=cT H.live x))
 | n,H,held,s0,g,p,h,hg,hp,hf,hn=>by
  have ht:=(cQ.1 hg).1;obtain⟨s,L,M,G,a⟩:=DJ h hg hp hf;rcases M with⟨p',D,e1,e2,e3,e4,e5⟩|e1
  ·obtain⟨B,N,P⟩:=s.hi;obtain⟨R,i,kB⟩:=GZ (p:=p) ht;rw[e4]at i;cases i;have K:qp D p'<n:=by omega
   obtain⟨m,H',e,r,hi,ks,E,y,_⟩:=EZ (qp D p') P e4 (kB.trans e1) e2 (zD _);obtain⟨F,J⟩:=y e3;refine⟨m+1,H',e,.next s.ok e1 r,hi,s.ks.trans ks,⟨E.1,λj u=>(E.2 j u).trans (by unfold gW;rw[Hy p u])⟩,λd=>⟨F,J.trans (G d).2⟩,λx d=>⟨λA=>?_,λb Q=>⟨F,J.trans ((a x d).2 b Q).2⟩⟩⟩;have:=((a x d).1 A).1;rw[e1]at this;cases this
  ·have w:xr H (QP H t p) t:=by
    obtain⟨D,z,C⟩:=GZ (p:=p) ht;exact⟨by unfold gW;rw[z];exact C.trans e1,λj u=>by unfold gW;rw[Hy p u]⟩
   have r:=iW.done (H:=H) (t:=t) s.ok e1;rw[L]at r;exact⟨1,_,_,r,s.hi,s.ks,w,G,λx d=>⟨λA=>((a x d).1 A).2,(a x d).2⟩⟩
termination_by n=>n
structure iF (H H':Hw):Prop where
 hi:∃held s0,HI H' held s0
 ks:KS H.sp H'.sp
 kp:Qb H' H
 ph:∀j,gW H' j=gW H j
theorem iF.refl (h:HI H held s0):iF H H:=⟨⟨held,s0,h⟩,KS.refl _,Qb.refl _,λ_=>rfl⟩
theorem iF.trans {H1 H2 H3:Hw}(a:iF H1 H2)(b:iF H2 H3):iF H1 H3:=⟨b.hi,a.ks.trans b.ks,a.kp.trans b.kp,λj=>(b.ph j).trans (a.ph j)⟩
theorem DP {tb:List bW}{kind size align addr:Int}{p:Ph}(h:ja tb kind size align addr=some p)(hx:iO addr)(hh:g.bP=[]):iE tb.length {g with ph:=some p}:=by
 unfold ja at h;split at h
 ·split at h
  ·split at h
   ·split at h
    ·rename_i k hk;cases h;exact⟨hh,Iq hk⟩
    ·cases h;exact⟨hh,O,O⟩
   ·cases h
  ·cases h
 ·split at h
  ·cases h;exact⟨hh,hx⟩
  ·split at h
   ·cases h;exact hh
   ·cases h
theorem HI.eU (h:HI H held s0)(hg:H.bQ[t]?=some g)(hn:g.ph=none){p:Ph}(hp:iE H.tb.length {g with ph:=some p})(hq:∀s a,p≠.dI s a):HI (eU H t (some p)) held s0:=by
 have b:=h.th g (h.mem hg);have e:Go.Ar.eU H t (some p) = {H with bQ:=H.bQ.set t {g with ph:=some p}}:=ZM hg _;rw[e];refine h.kR hg (live':=H.live) (λd x=>?_) h.lk (λj i=>.inl i) (λs a hp=>by cases hp;exact(hq s a rfl).elim) ⟨b.ll,b.lo,b.hb,b.hl,hp⟩;unfold gZ;rw[hn];have:j8 (some p) d x=0:=by
  cases p<;>first|rfl|exact(hq _ _ rfl).elim
 simp only[this];simp only[j8]
theorem HV (h:HI H held s0)(hg:H.bQ[t]?=some g)(hn:g.ph=none):g.bP=[]:=by
 have:=(h.th g (h.mem hg)).ph;unfold iE at this;rw[hn]at this;exact this
theorem Up (H:Hw)(thread kind size align addr:Int):(∃e,KG H thread kind size align addr=.inl e/\e≠0)\/∃(t:Nat) (p:Ph) (g:Th),thread=(t:Int)/\H.bQ[t]?=some g/\g.ph=none/\ja H.tb kind size align addr=some p/\KG H thread kind size align addr=.inr (t,p):=by
 unfold KG;split
 ·split
  ·split
   ·split
    ·rename_i hth _ g hg hn _ p hp;exact .inr ⟨thread.toNat,p,g,O,hg,hn,hp,rfl⟩
    ·exact .inl ⟨1,rfl,by decide⟩
   ·exact .inl ⟨5,rfl,by decide⟩
  ·exact .inl ⟨1,rfl,by decide⟩
 ·exact .inl ⟨1,rfl,by decide⟩
theorem Wha (hg:H.bQ[t]?=some g)(p:Option Ph)(hj:j≠t):gW (eU H t p) j=gW H j:=by
 unfold gW eU;rw[KD _ hj]
theorem La (hg:H.bQ[t]?=some g)(hn:g.ph=none){p:Ph}(ps:xr (eU H t (some p)) H' t):∀j,gW H' j=gW H j:=λj=>by
 by_cases hj:j=t
 ·subst hj;rw[ps.1];unfold gW;rw[hg];exact hn.symm
 ·rw[ps.2 j hj,Wha hg _ hj]
def uA (H:Hw)(size align:Int)(H':Hw)(a e:Int):Prop:=(e≠0/\a=0/\H'.live=H.live) ∨
 (e=0/\bV H.live a=none/\(1<=size/\size<=16384/\Kr size align=true)/\∃cl,H'.live=dF H.live a (a,(qM H.tb size align).1,cl,YK H'.bT a)/\((∃k:Nat,cl=k/\gE H.tb size align=some k)\/cl = -1/\gE H.tb size align=none))
theorem Why (h:HI H held s0)(thread size align:Int):∃H' a e,U5 H thread 0 size align 0 H' a e/\iF H H'/\uA H size align H' a e:=by
 rcases Up H thread 0 size align 0 with⟨e,hs,hne⟩|⟨t,p,g,rfl,hg,hn,hq,hs⟩
 ·exact⟨H,0,e,.inl ⟨hs,hne,rfl,rfl⟩,iF.refl h,.inl ⟨hne,rfl,rfl⟩⟩
 ·have D:=HV h hg hn;have x:=DP (g:=g) hq (by unfold iO;decide) D;unfold ja at hq;rw[zB rfl]at hq;split at hq
  ·rename_i hsz;split at hq
   ·rename_i hok;have b:qM H.tb size align=(match gE H.tb size align with
     | some k=>((H.tb.getD k ⟨8,1,1⟩).size:Int)
     | none=>vA size,0):=by
     unfold qM;rw[zB ⟨hsz.2,hok⟩]
     first|done | (cases gE H.tb size align<;>rfl)
    obtain⟨cl,d,j⟩:∃cl,Rq H.tb {g with ph:=some p} p cl (qM H.tb size align).1/\((∃k:Nat,cl=k/\gE H.tb size align=some k)\/cl = -1/\gE H.tb size align=none):=by
     cases hcv:gE H.tb size align with
     | some k=>
      rw[hcv]at hq b;cases hq;have i:=Iq hcv;have z:H.tb[k]?=some H.tb[k]:=cM i;refine⟨k,⟨rfl,H.tb[k],z,?_⟩,.inl ⟨k,rfl,rfl⟩⟩;rw[b];simp only;rw[zL,z];rfl
     | none=>
      rw[hcv]at hq b;cases hq;refine⟨-1,⟨rfl,?_⟩,.inr ⟨rfl,rfl⟩⟩;rw[b];simp only;unfold vA;omega
    have u:∀s a,p≠.dI s a:=λs a e=>by subst e;exact d.elim
    have E:=h.eU hg hn x u;have y:(Go.Ar.eU H t (some p)).bQ[t]?=some {g with ph:=some p}:=by
     have A:=(cQ.1 hg).1;have e:Go.Ar.eU H t (some p) = {H with bQ:=H.bQ.set t {g with ph:=some p}}:=ZM hg _;rw[e];simp[A]
    obtain⟨m,H',a,e,r,C,ks,B,w⟩:=Lq _ E y rfl d (zD _);refine⟨H',a,e,.inr ⟨t,p,m,hs,r⟩,⟨C,ks,(KJ _ _ _).trans (Lp r),La hg hn B⟩,?_⟩;rcases w with⟨r1,r2,r3⟩|⟨r1,r2,r3⟩
    ·exact .inl ⟨r1,r2,r3⟩
    ·exact .inr ⟨r1,r2,⟨hsz.1,hsz.2,hok⟩,cl,r3,j⟩
   ·cases hq
  ·cases hq
def uz (H:Hw)(thread addr:Int)(H':Hw)(e:Int):Prop:=
 (e≠0/\H'=H/\KG H thread 1 0 0 addr=.inl e)\/((∃p,KG H thread 1 0 0 addr=.inr p)/\bV H.live addr=none/\e≠0/\H'.live=H.live)\/((∃p,KG H thread 1 0 0 addr=.inr p)/\∃b,bV H.live addr=some b/\e=0/\H'.live=cT H.live addr)
theorem Ee (h:HI H held s0)(hg:H.bQ[t]?=some g)(hn:g.ph=none){p:Ph}(hp:iE H.tb.length {g with ph:=some p})(hf:mP p)(hq:∀s a,p≠.dI s a):∃m H' e,iW m (eU H t (some p)) t p H' 0 e/\iF H H'/\((∀x,p≠.find x)->e=0/\H'.live=H.live) ∧
 (∀x,p=.find x->(bV H.live x=none->e≠0/\H'.live=H.live)/\(∀b,bV H.live x=some b->e=0/\H'.live=cT H.live x)):=by
 have w:=h.eU hg hn hp hq;have d:(Go.Ar.eU H t (some p)).bQ[t]?=some {g with ph:=some p}:=by
  have j:=(cQ.1 hg).1;have e:Go.Ar.eU H t (some p) = {H with bQ:=H.bQ.set t {g with ph:=some p}}:=ZM hg _;rw[e];simp[j]
 obtain⟨m,H',e,r,z,ks,u,i,y⟩:=EZ _ w d rfl hf (zD _);exact⟨m,H',e,r,⟨z,ks,(KJ _ _ _).trans (Lp r),La hg hn u⟩,i,y⟩
theorem R9 (h:HI H held s0)(thread addr:Int)(hx:iO addr):∃H' e,U5 H thread 1 0 0 addr H' 0 e/\iF H H'/\uz H thread addr H' e:=by
 rcases Up H thread 1 0 0 addr with⟨e,hs,hne⟩|⟨t,p,g,rfl,hg,hn,hq,hs⟩
 ·exact⟨H,e,.inl ⟨hs,hne,rfl,rfl⟩,iF.refl h,.inl ⟨hne,rfl,hs⟩⟩
 ·have d:=DP (g:=g) hq hx (HV h hg hn);have j:p=.find addr:=by unfold ja at hq;simp at hq;exact hq.symm
  subst j;obtain⟨m,H',e,r,op,_,i⟩:=Ee h hg hn d trivial (λs a e=>by cases e);refine⟨H',e,.inr ⟨t,_,m,hs,r⟩,op,?_⟩;cases hm:bV H.live addr with
  | none=>exact .inr (.inl ⟨⟨_,hs⟩,hm,(i addr rfl).1 hm⟩)
  | some b=>exact .inr (.inr ⟨⟨_,hs⟩,b,hm,(i addr rfl).2 b hm⟩)
theorem N3 (h:HI H held s0)(thread:Int):∃H' e,U5 H thread 2 0 0 0 H' 0 e/\iF H H'/\H'.live=H.live:=by
 rcases Up H thread 2 0 0 0 with⟨e,hs,hne⟩|⟨t,p,g,rfl,hg,hn,hq,hs⟩
 ·exact⟨H,e,.inl ⟨hs,hne,rfl,rfl⟩,iF.refl h,rfl⟩
 ·have b:=DP (g:=g) hq (by unfold iO;decide) (HV h hg hn);have i:p=.drain:=by unfold ja at hq;simp at hq;exact hq.symm
  subst i;obtain⟨m,H',e,r,op,d,_⟩:=Ee h hg hn b trivial (λs a e=>by cases e);exact⟨H',e,.inr ⟨t,_,m,hs,r⟩,op,(d λx e=>by cases e).2⟩
end Go.Ar
namespace Go.Ar
open Go Go.Vc Go.Proofs
variable {σ u w w':Hp}{F B P Q:Rg}{L:dR}{H H':Hw}{t n k:Nat}{A:AR}{Y:Lay}
theorem Fr.refl (A:AR):Fr A A:=⟨rfl,rfl,rfl⟩
theorem Fr.trans {A B C:AR}(h:Fr B A)(k:Fr C B):Fr C A:=⟨k.1.trans h.1,k.2.1.trans h.2.1,k.2.2.trans h.2.2⟩
theorem Ce {α:Type}(f:AR×Sp->α->AR×Sp)(hf:∀p x,Fr (f p x).1 p.1):∀(l:List α) (p:AR×Sp),Fr (l.foldl f p).1 p.1
 | [],p=>Fr.refl _
 | x::l,p=>(hf p x).trans (Ce f hf l (f p x))
theorem J6 (A:AR)(sp:Sp):Fr (eJ A sp).1 A:=Ce Vh (λp x=>⟨rfl,rfl,rfl⟩) _ _
theorem MF (A:AR):Fr (YL A) A:=⟨(Vt _ A).1,(Vt _ A).2.1,(Vt _ A).2.2.1⟩
theorem IQ (A:AR)(sp:Sp)(want:Int):Fr (dV A sp want).1 A:=by
 unfold dV;split
 ·exact Fr.refl A
 ·exact(MF A).trans (Ce fE (λp x=>⟨rfl,rfl,rfl⟩) _ _)
theorem RF (h:HH σ F L H)(hk:H.bT[k]?=some A)(hy:L.ys[k]?=some Y){R:aN}
 (hR:∀σ',Ext F σ σ'->HH σ' (Grow F σ) L {H.cB k (eJ A H.sp).1 with sp:=(eJ A H.sp).2}->R ((uZ A:Nat):Int) σ'):Yl.c (aW Y.p) σ R:=by
 obtain⟨Y',G,D,d,_,s,a⟩:=h.lJ hk;rw[hy]at d;cases d;refine ξ s λσ' e m=>?_;have g:cF (eJ A H.sp).1 Y=cF A Y:=(J6 A H.sp).cF Y;obtain⟨j,r⟩:=a σ' _ _ (Cut G σ) (Cut D σ) (J6 A H.sp).1 e ⟨λb i=>.inl i.1,λb i=>i.1⟩ (by rw[g];exact m);exact hR σ' j r
theorem SG (h:HH σ F L H)(hk:H.bT[k]?=some A)(hy:L.ys[k]?=some Y)(want:Int)(h12:(VD (YL A).st).length<=12){R:Int->Int->Hp->Prop}
 (hR:∀σ',Ext F σ σ'->HH σ' (Grow F σ) L {H.cB k (dV A H.sp want).1 with sp:=(dV A H.sp want).2}->R ((kq A want:Nat):Int) (oB want) σ'):Xk.c (aW Y.p) want σ R:=by
 obtain⟨Y',G,D,b,_,m,a⟩:=h.lJ hk;rw[hy]at b;cases b;refine Mf m want h12 λσ' G' D' r e i=>?_;have d:cF (dV A H.sp want).1 Y=cF A Y:=(IQ A H.sp want).cF Y;obtain⟨g,j⟩:=a σ' _ _ G' D' (IQ A H.sp want).1 e r (by rw[d];exact i);exact hR σ' g j
def QF (H:Hw)(n:Nat):Hw×Nat:=(List.range n).foldl (λ(p:Hw×Nat) k=>match p.1.bT[k]? with
 | some A=>({p.1.cB k (eJ A p.1.sp).1 with sp:=(eJ A p.1.sp).2},p.2+uZ A)
 | none=>p) (H,0)
theorem U7 (n:Nat):QF H (n+1)=(match (QF H n).1.bT[n]? with
 | some A=>({(QF H n).1.cB n (eJ A (QF H n).1.sp).1 with sp:=(eJ A (QF H n).1.sp).2},(QF H n).2+uZ A)
 | none=>QF H n):=by
 unfold QF;rw[zz,mN];rfl
theorem LR (H:Hw)(n:Nat):Qb (QF H n).1 H:=by
 induction n with
 | zero=>exact Qb.refl H
 | succ n ih=>
  rw[U7];split
  ·exact ih.trans (Qc _ _ _ _)
  ·exact ih
theorem Nb (h:HH σ F L H)(hb:∀n,n<=H.bT.length->(QF H n).2<=1000000){R:aN}(hR:∀σ',Ext F σ σ'->HH σ' (Grow F σ) L (QF H H.bT.length).1->R (((QF H H.bT.length).2:Nat):Int) σ'):ZB.c (aW L.p) σ R:=by
 refine ZB.o ?_;unfold ZB.v;refine KB h (cG rfl (aG (h.hd.rS rfl ?_)));have M:=h.jY;have G:=h.s.a2;refine Kf (a:=bN) (bb:=bN) (λ(x z:Int) w=>∃(j:Nat) (B P:Rg),z=(j:Int)/\x=((QF H j).2:Int)/\j<=H.bT.length/\HK F σ B w P L (QF H j).1) (λ_ z _=>H.bT.length-z.toNat) ⟨0,_,_,rfl,rfl,O,HK.start h⟩ ?_;rintro(x:Int) (z:Int) w ⟨j,B,P,rfl,rfl,hj,K⟩;refine cI (λg=>?_) λC=>?_
 ·simp only at g;have u:j<H.bT.length:=by omega
  obtain⟨A,r⟩:∃A,(QF H j).1.bT[j]?=some A:=⟨_,cM (by rw[(LR H j).2.2.2];exact u)⟩;obtain⟨Y,D,_,_⟩:=K.h.ar r;have d:=U7 (H:=H) j;rw[r]at d;simp only at d;have J:=hb (j+1) O;refine K.h.rA D (RF K.h r D λS N Q=>?_);have K1:=K.to N Q λb _ hb=>hb;have U:(QF H (j+1)).2=(QF H j).2+uZ A:=by rw[d]
  have E:(QF H (j+1)).1 = {(QF H j).1.cB j (eJ A (QF H j).1.sp).1 with sp:=(eJ A (QF H j).1.sp).2}:=by rw[d]
  rw[←E]at K1;exact cA (m:=(QF H (j+1)).2) O O (cA (m:=j+1) O O ⟨⟨j+1,_,_,rfl,rfl,O,K1⟩,O⟩)
 ·have y:j=H.bT.length:=by simp only at C;omega
  subst y;exact hR w K.e (K.fin h)
def Uw (H:Hw)(n:Nat):Hw:=(List.range n).foldl (λ(H:Hw) k=>match H.bT[k]? with
 | some A=>H.cB k (UV A)
 | none=>H) H
theorem UX (n:Nat):Uw H (n+1)=(match (Uw H n).bT[n]? with
 | some A=>(Uw H n).cB n (UV A)
 | none=>Uw H n):=by
 unfold Uw;rw[zz,mN];rfl
theorem SV (H:Hw)(n:Nat):Qb (Uw H n) H:=by
 induction n with
 | zero=>exact Qb.refl H
 | succ n ih=>
  rw[UX];split
  ·exact ih.trans (Qc _ _ _ _)
  ·exact ih
theorem OJ (h:HH σ F L H)(hI:∀n A,n<H.bT.length->(Uw H n).bT[n]?=some A->lU A){R:aP}(hR:∀σ',Ext F σ σ'->HH σ' (Grow F σ) L (Uw H H.bT.length)->R σ'):ZD.c (aW L.p) σ R:=by
 refine ZD.o ?_;unfold ZD.v;refine KB h (cG rfl (aG (h.hd.rS rfl ?_)));have Q:=h.jY;have W:=h.s.a2;refine ZU (a:=bN) (λ(z:Int) w=>∃(j:Nat) (B P:Rg),z=(j:Int)/\j<=H.bT.length/\HK F σ B w P L (Uw H j)) (λz _=>H.bT.length-z.toNat) ⟨0,_,_,rfl,O,HK.start h⟩ ?_;rintro(z:Int) w ⟨j,B,P,rfl,hj,K⟩;refine cI (λy=>?_) λD=>?_
 ·simp only at y;have u:j<H.bT.length:=by omega
  obtain⟨A,x⟩:∃A,(Uw H j).bT[j]?=some A:=⟨_,cM (by rw[(SV H j).2.2.2];exact u)⟩;obtain⟨Y,E,_,_⟩:=K.h.ar x;have d:=UX (H:=H) j;rw[x]at d;simp only at d;refine K.h.rA E ?_;obtain⟨G,Z,X,g⟩:=K.h.lR x E;have r:=hI j A u x;refine P3 X r λM S U=>?_;obtain⟨J,N⟩:=g M (UV A) (IJ _ A r).1 S U;have K1:=K.to J N λb _ V=>V;rw[←d]at K1;exact cA (m:=j+1) O O ⟨⟨j+1,_,_,rfl,O,K1⟩,O⟩
 ·have C:j=H.bT.length:=by simp only at D;omega
  subst C;exact hR w K.e (K.fin h)
def QC (H:Hw)(want:Int)(n:Nat):Hw×Nat:=(List.range n).foldl (λ(p:Hw×Nat) k=>if want<=(p.2:Int)then p else match p.1.bT[k]? with
 | some A=>({p.1.cB k (dV A p.1.sp (want-p.2)).1 with sp:=(dV A p.1.sp (want-p.2)).2},p.2+kq A (want-p.2))
 | none=>p) (H,0)
theorem UK (want:Int)(n:Nat):QC H want (n+1)=(if want<=((QC H want n).2:Int)then QC H want n else match (QC H want n).1.bT[n]? with
 | some A=>({(QC H want n).1.cB n (dV A (QC H want n).1.sp (want-(QC H want n).2)).1 with sp:=(dV A (QC H want n).1.sp (want-(QC H want n).2)).2},(QC H want n).2+kq A (want-(QC H want n).2))
 | none=>QC H want n):=by
 unfold QC;rw[zz,mN];rfl
theorem Jt {want:Int}{j:Nat}(h:want<=((QC H want j).2:Int)):∀n,j<=n->QC H want n=QC H want j
 | 0,hn=>by rw[show j=0 by omega]
 | n+1,hn=>by
  by_cases e:j=n+1
  ·rw[e]
  ·have ih:=Jt h n O;rw[UK,ih,zB h]
theorem NG (H:Hw)(want:Int)(n:Nat):Qb (QC H want n).1 H:=by
 induction n with
 | zero=>exact Qb.refl H
 | succ n ih=>
  rw[UK];split
  ·exact ih
  ·split
   ·exact ih.trans (Qc _ _ _ _)
   ·exact ih
theorem Mt (h:HH σ F L H)(want:Int)(hw9:want<=9223372036854775807)(h12:∀n A,n<H.bT.length->(QC H want n).1.bT[n]?=some A->(VD (YL A).st).length<=12)(hb:∀n,n<=H.bT.length->(QC H want n).2<=1000000){R:Int->Int->Hp->Prop}
 (h1:want<0->R 0 1 σ) (hR:0<=want->∀σ',Ext F σ σ'->HH σ' (Grow F σ) L (QC H want H.bT.length).1->R (((QC H want H.bT.length).2:Nat):Int) 0 σ'):YG.c (aW L.p) want σ R:=by
 refine YG.o ?_;unfold YG.v;refine KB h (cG rfl (cI (λE=>h1 E) λE=>aG (h.hd.rS rfl ?_)));have hR:=hR O;have S:=h.jY;have M:=h.s.a2;refine Kf (a:=bN) (bb:=bN) (λ(x z:Int) w=>∃(j:Nat) (B P:Rg),z=(j:Int)/\x=((QC H want j).2:Int)/\j<=H.bT.length/\HK F σ B w P L (QC H want j).1) (λ_ z _=>H.bT.length-z.toNat) ⟨0,_,_,rfl,rfl,O,HK.start h⟩ ?_;rintro(x:Int) (z:Int) w ⟨j,B,P,rfl,rfl,hj,K⟩;refine cI (λu=>?_) λD=>?_
 ·simp only at u;have g:j<H.bT.length:=by omega
  obtain⟨A,r⟩:∃A,(QC H want j).1.bT[j]?=some A:=⟨_,cM (by rw[(NG H want j).2.2.2];exact g)⟩;obtain⟨Y,G,_,_⟩:=K.h.ar r;have N:=hb j hj;have Q:=hb (j+1) O;refine K.h.rA G (cI (λy=>?_) λy=>?_)
  ·rw[Jt O H.bT.length hj]at hR;exact hR w K.e (K.fin h)
  ·have d:=UK (H:=H) want j;rw[zA O,r]at d;simp only at d;refine ar O O (SG K.h r G _ (h12 j A g r) λV U h1=>?_);have K1:=K.to U h1 λb _ hb=>hb;have W:(QC H want (j+1)).2=(QC H want j).2+kq A (want-(QC H want j).2):=by rw[d]
   have J:(QC H want (j+1)).1 = {(QC H want j).1.cB j (dV A (QC H want j).1.sp (want-(QC H want j).2)).1 with sp:=(dV A (QC H want j).1.sp (want-(QC H want j).2)).2}:=by rw[d]
   rw[←J]at K1;exact cA (m:=(QC H want (j+1)).2) O O (cA (m:=j+1) O O ⟨⟨j+1,_,_,rfl,rfl,O,K1⟩,O⟩)
 ·have C:j=H.bT.length:=by simp only at D;omega
  subst C;exact hR w K.e (K.fin h)
end Go.Ar
namespace Go.Ar
variable {A:AR}
theorem Wgy (h:GA A)(hn:A.n<=208)(hlow:∀p,p<16->A.f p=0):(VD (YL A).st).length<=12:=by
 obtain⟨o,_,_⟩:=Uq h;have a:(YL A).st.length=A.n:=by rw[o.ga.pg.len,o.kp.n]
 have b:∀p,p<16->(YL A).f p=0:=λp g=>(o.kp.z p).2 (hlow p g);have d:=h.pg.n1;unfold VD;rw[a];have e:List.range (A.n/16)=0::(List.range (A.n/16-1)).map Nat.succ:=by
  rw[←Ab];congr 1;omega
 rw[e,rK];have i:gA (YL A).st (16*0) (16*0+16) 2=0:=(HA O (by rw[a];omega)).2 λp j m r=>by
  have:=b p O;unfold AR.f at this;omega
 rw[i];have:¬(decide (0<0)=true):=by simp
 rw[zA this];refine zI (m5 _ _) ?_;rw[za,oQ];omega
def rJ (tb:List bW)(n room m:Nat):Wd:=⟨tb,Vq n,List.replicate m (fG n room tb),[]⟩
theorem MB {n room:Nat}{tb:List bW}(h1:32<=n)(h2:n<=1024)(h3:n%16=0)(h6:tb.length<=40)(h7:∀c∈tb,c.ok):GA (fG n room tb)/\∀p,(fG n room tb).f p=0:=by
 have i:∀p,(fG n room tb).f p=0:=λp=>by
  show(List.replicate n 0).getD p 0=0;rw[zL,nr];split<;>rfl
 have b:∀{k:Nat} {g:List cH},(List.replicate tb.length ([]:List cH))[k]?=some g->g=[]:=λh=>by
  rw[nr]at h;split at h<;>simp at h;exact h
 have a:∀{k:Nat} {t:fP},(List.replicate tb.length (⟨0,[]⟩:fP))[k]?=some t->t.bs=[]:=λh=>by
  rw[nr]at h;split at h<;>simp at h;rw[←h]
 refine⟨⟨⟨by simp[fG],h1,h2,h3,λp=>by rw[i];omega,λp=>by rw[i];simp[fG],λp=>by rw[i];simp[fG,Go.Bu.iL],λp=>by rw[i,i]⟩,h6,by simp[fG],by simp[fG],λk c g d=>?_,λk c g d s m=>?_,λk c g d p=>?_,λp=>?_,λp=>.inr (Nat.zero_le _),by simp[fG],by simp[fG],λk t j=>?_,λk c g t d j=>?_,λk c t d j=>?_⟩,i⟩
 ·have e:=b d.2;subst e;exact⟨h7 c (zE d.1),by simp,by simp⟩
 ·have e:=b d.2;subst e;simp at m
 ·have e:=b d.2;subst e;constructor
  ·intro h;cases h
  ·rintro⟨s,m,_⟩;simp at m
 ·constructor
  ·intro h;cases h
  ·rintro⟨r,hr,_⟩;simp[fG]at hr
 ·have:=a j;rw[this];exact rl
 ·have:=a j;rw[this];simp
 ·have:=a j;rw[this];simp
theorem SO {tb:List bW}{n room m:Nat}(h1:32<=n)(h2:n<=1024)(h3:n%16=0)(h6:tb.length<=40)(h7:∀c∈tb,c.ok):WI (rJ tb n room m):=by
 obtain⟨u,d⟩:=MB (room:=room) h1 h2 h3 h6 h7;have get:∀{k:Nat} {A:AR},(rJ tb n room m).bT[k]?=some A->A=fG n room tb:=λ{k A} h=>by
  have h:(List.replicate m (fG n room tb))[k]?=some A:=h;rw[nr]at h;split at h<;>simp at h;exact h.symm
 have b:∀p,gf (Vq n).st p=0:=λp=>by
  show(List.replicate n 0).getD p 0=0;rw[zL,nr];split<;>rfl
 refine⟨λk A h=>by rw[get h];exact u,λk A h=>?_,λk A h=>by rw[get h];rfl,λk A h p a=>by rw[get h];exact d p,λp a=>(a (b p)).elim,λp k l A B D F h1 h2=>?_,rl,λp a=>by simp[rJ]at a,λk A h j y g=>?_,λk A h r w=>?_⟩
 ·rw[get h];exact⟨by simp[rJ,Vq,fG],λp a=>(a (d p)).elim,λp a=>by rw[d p]at a;omega,λp=>by show gf (Vq n).st p<=2;rw[b];omega⟩
 ·rw[get D]at h1;exact(h1 (d p)).elim
 ·rw[get h]at g;obtain⟨c,E,x,z⟩:=g;have e:E=[]:=by
   have h2:=x.2;simp only[fG]at h2;rw[nr]at h2;split at h2<;>simp at h2;exact h2
  subst e;obtain⟨G,s,i,C,_⟩:=(Uc (u.cC _ _ _ x)).1 z;simp at C
 ·rw[get h]at w;simp[fG]at w
end Go.Ar
namespace Go.Ar
open Go.Vc (bV dF cT)
variable {H H':Hw}{held:List Pc}{s0:Sp}{t k j:Nat}{g:Th}{A:AR}{c:bW}
theorem Woh {tb:List bW}{cf:Cf}(h1:32<=cf.aF)(h2:cf.aF<=1024)(h3:cf.aF%16=0)(h4:1<=cf.ik)(h6:tb.length<=40)(h7:∀c∈tb,c.ok):HI (Ug tb cf) [] (Vq cf.aF):=by
 have u:=SO (tb:=tb) (n:=cf.aF) (room:=cf.room) (m:=cf.ik) h1 h2 h3 h6 h7;have i:∀g∈(Ug tb cf).bQ,g=⟨List.replicate tb.length iC,[],none⟩:=λg d=>(xX.1 d).2;have r:∀k,(List.replicate tb.length iC).getD k iC=iC:=λk=>by
  rw[zL,nr];split<;>rfl
 refine⟨u,gK.refl _,λk x=>?_,rl,λe y=>by simp[Ug]at y,λg d s a j=>?_,λg d=>?_,h7,?_,?_⟩
 ·have B:∀(n:Nat) (f:Th->Nat) (g:Th),f g=0->((List.replicate n g).map f).sum=0:=λn f g h=>by
   rw[tJ,h]
   induction n with
   | zero=>rfl
   | succ n ih=>rw[w9,zm,ih]
  have A:gZ ⟨List.replicate tb.length iC,[],none⟩ k x=0:=by
   unfold gZ mn;split
   ·simp only[r];rfl
   ·rfl
  have:qN (Ug tb cf) k x=0:=by
   unfold qN;show mT [] k x+((List.replicate cf.threads (⟨List.replicate tb.length iC,[],none⟩:Th)).map λg=>gZ g k x).sum=0;rw[B _ _ _ A];rfl
  rw[this,QU];rintro⟨p,j,_⟩;simp at j
 ·rw[i g d]at j;cases j
 ·rw[i g d];refine⟨by simp[Ug],λl w=>?_,λb z=>by simp at z,by simp,by unfold iE;rfl⟩;rw[(xX.1 w).2];exact⟨fQ.nil,by simp[iC]⟩
 ·show 1<=(List.replicate cf.ik (fG cf.aF cf.room tb)).length;simpa using h4
 ·show(List.replicate cf.aF 0).length=cf.aF;simp
def KL (H H':Hw):Prop:=∀e∈H.live,∀w:Nat,e.1<=((8*w:Nat):Int)->((8*w:Nat):Int)<e.1+e.2.2.1->H'.sp.wd w=H.sp.wd w
theorem HI.yr (h:HI H held s0):WI ⟨H.tb,s0,H.bT,held⟩:=h.wi
theorem HI.mapped (h:HI H held s0){p:Pc}(hp:p∈held){x:Nat}(h1:p.addr<=x)(h2:x<p.addr+p.size):gf H.sp.st (x/256)≠0:=by
 obtain⟨A,a,_⟩:=h.wi.hf p hp;have b:=h.wi.og hp a h1 h2;have:=(h.wi.ow _ A a).own (x/256) O;intro hz;exact this ((h.la.z _).1 hz)
theorem HI.kl (h:HI H held s0)(k:KS H.sp H'.sp):KL H H':=λe b w i m=>by
 obtain⟨_,p,d,_,_,g,j,_⟩:=h.lv e b;have a:=h.mapped d (x:=8*w) O O;exact(k.k _ a).2 w O
theorem KL.refl (H:Hw):KL H H:=λ_ _ _ _ _=>rfl
theorem KL.trans {H1 H2 H3:Hw}(a:KL H1 H2)(b:KL H2 H3)(hl:∀e∈H1.live,e∈H2.live):KL H1 H3:=λe g w d i=>(b e (hl e g) w d i).trans (a e g w d i)
structure iG (H H':Hw):Prop where
 hi:∃held s0,HI H' held s0
 live:H'.live=H.live
 bQ:H'.bQ=H.bQ
 kp:Qb H' H
 kl:KL H H'
theorem iG.refl (h:HI H held s0):iG H H:=⟨⟨_,_,h⟩,rfl,rfl,Qb.refl _,KL.refl _⟩
theorem iG.trans {H1 H2 H3:Hw}(a:iG H1 H2)(b:iG H2 H3):iG H1 H3:=⟨b.hi,b.live.trans a.live,b.bQ.trans a.bQ,a.kp.trans b.kp,a.kl.trans b.kl λe d=>by rw[a.live];exact d⟩
theorem HI.n (h:HI H held s0)(hk:H.bT[k]?=some A):A.n=H.cf.aF:=by
 have:=(h.wi.ow k A hk).l;have b:=h.la.l;have a:=h.sl;simp only at this;omega
theorem HI.ly (h:HI H held s0)(h208:H.cf.aF<=208)(hk:H.bT[k]?=some A):(VD (YL A).st).length<=12:=Wgy (h.wi.ga k A hk) (by rw[h.n hk];exact h208) (h.wi.low k A hk)
theorem F4 (h:HI H held s0)(hk:H.bT[k]?=some A){B:AR}{s0' sp':Sp}(wi:WI ⟨H.tb,s0',H.bT.set k B,held⟩)(hw:∀w,B.f (w/32)=1->sp'.wd w=H.sp.wd w)(hoth:∀w,A.f (w/32)=0->B.f (w/32)=0->sp'.wd w=H.sp.wd w):KL H {H.cB k B with sp:=sp'}:=by
 intro e he w h1 h2;obtain⟨_,p,d,_,_,r,s,_⟩:=h.lv e he;obtain⟨C,i,_⟩:=h.wi.hf p d;obtain⟨D,a,_⟩:=wi.hf p d;have m:=h.wi.og d i (x:=8*w) O O;have j:=wi.og d a (x:=8*w) O O;rw[show 8*w/256=w/32 by omega]at m j;have b:=(cQ.1 hk).1;by_cases hpk:p.k=k
 ·have g:(H.bT.set k B)[k]?=some B:=zM b;have a:(H.bT.set k B)[p.k]?=some D:=a;rw[hpk,g]at a;cases a;exact hw w j
 ·refine hoth w ?_ ?_
  ·apply Classical.byContradiction;intro hn;exact hpk (h.wi.one (w/32) p.k k C A i hk O hn)
  ·have g:(H.bT.set k B)[k]?=some B:=zM b;apply Classical.byContradiction;intro hn;exact hpk (wi.one (w/32) p.k k D B a g O hn)
theorem WoH (h:HI H held s0)(hk:H.bT[k]?=some A)(want:Int):iG H {H.cB k (dV A H.sp want).1 with sp:=(dV A H.sp want).2}:=by
 have ga:=h.wi.ga k A hk;obtain⟨g,j,u⟩:=h.la.dV A want;obtain⟨s,B,C,m⟩:=Pv ga (h.wi.ow k A hk) want;have wi:=h.wi.jx hk s B m C;rw[show(Wd.mk H.tb s0 H.bT held).sp=s0 from rfl,←g]at wi;have x:=h.tY wi j u (by simp[Wd.put]) (λ_ _=>Iff.rfl) (λp r _=>r);have key:KL H {H.cB k (dV A H.sp want).1 with sp:=(dV A H.sp want).2}:=by
  by_cases h0:want<0
  ·have:dV A H.sp want=(A,H.sp):=by unfold dV;rw[zB h0]
   rw[this];exact λ_ _ _ _ _=>rfl
  ·obtain⟨z,_⟩:=Fc ga (h.wi.ow k A hk) (want:=want) O;have b:=Uq ga;have a:∀w,¬iQ (V3 A want) (w/32)->(dV A H.sp want).2.wd w=H.sp.wd w:=λw d=>by
    rw[j.w,z.wd w d,h.la.w]
   refine F4 h hk wi (λw d=>a w λe=>?_) λw y _=>a w λe=>?_
   ·have:=(z.i _ e).2.1;rw[g]at d;simp only at this;omega
   ·have:=(z.i _ e).1;have:=(b.1.kp.z (w/32)).2 y;omega
 exact⟨⟨_,_,x⟩,rfl,rfl,Qc _ _ _ _,key⟩
theorem PL (h:HI H held s0)(hk:H.bT[k]?=some A):iG H {H.cB k (eJ A H.sp).1 with sp:=(eJ A H.sp).2}:=by
 have ga:=h.wi.ga k A hk;obtain⟨e,g,m⟩:=h.la.eJ A;have z:=WkR ga (h.wi.ow k A hk);have wi:=h.wi.jx hk z.st z.runs (λj y=>by unfold eZ Cl;rw[z.st.tb,z.cC]) z.cE;rw[show(Wd.mk H.tb s0 H.bT held).sp=s0 from rfl,←e]at wi;have r:=h.tY wi g m (by simp[Wd.put]) (λ_ _=>Iff.rfl) (λp i _=>i);have a:∀w,w/32/16∉Kg A.st 0->(eJ A H.sp).2.wd w=H.sp.wd w:=λw d=>by
  rw[g.w,z.wd w d,h.la.w]
 have key:KL H {H.cB k (eJ A H.sp).1 with sp:=(eJ A H.sp).2}:=by
  refine F4 h hk wi (λw d=>a w λb=>?_) λw s _=>a w λb=>?_
  ·rw[e,z.f,zB b]at d;omega
  ·have:=((IK ga).1 b).2 (w/32) rfl;omega
 exact⟨⟨_,_,r⟩,rfl,rfl,Qc _ _ _ _,key⟩
theorem Nd (h:HI H held s0)(hk:H.bT[k]?=some A):iG H (H.cB k (UV A)):=by
 have wi:=h.wi.tick hk;have b:=h.tY (sp':=H.sp) wi h.la rfl (by simp[Wd.put]) (S4 _) (λp a _=>(zH.1 a).1);exact⟨⟨_,_,b⟩,rfl,rfl,Qc _ _ _ H.sp,λ_ _ _ _ _=>rfl⟩
theorem OD (h:HI H held s0)(n:Nat):iG H (Uw H n):=by
 induction n with
 | zero=>exact iG.refl h
 | succ n ih=>
  rw[UX];split
  ·rename_i A hA;obtain⟨a,b,d⟩:=ih.hi;exact ih.trans (Nd d hA)
  ·exact ih
theorem WjS (st:List Nat)(k:Nat):(Kg st k).length<=st.length/16:=by
 unfold Kg;exact zI (m5 _ _) aA
theorem L6 (h:HI H held s0)(n:Nat):iG H (QF H n).1/\(QF H n).2<=n*64:=by
 induction n with
 | zero=>exact⟨iG.refl h,zD _⟩
 | succ n a=>
  obtain⟨a,m⟩:=a;rw[U7];split
  ·rename_i A hA;obtain⟨b,e,d⟩:=a.hi;refine⟨a.trans (PL d hA),?_⟩;have ga:=d.wi.ga n A hA;have i:=WjS A.st 0;have j:=ga.pg.len;have g:=ga.pg.n2;simp only[uZ];omega
  ·exact⟨a,O⟩
theorem Ec (st:List Nat)(e:Nat):∀(f p:Nat),(QX st e f p).length<=f/\∀r∈QX st e f p,r.2<=e-p
 | 0,p=>⟨by simp[QX],by simp[QX]⟩
 | f+1,p=>by
  unfold QX;split
  ·exact⟨by simp,by simp⟩
  ·split
   ·obtain⟨h1,h2⟩:=Ec st e f (p+1);exact⟨O,λr a=>by have:=h2 r a;omega⟩
   ·obtain⟨h1,h2⟩:=Ec st e f (p+gp st p (e-p)+1);refine⟨by simp;omega,λr a=>?_⟩;rcases zQ.1 a with rfl|a
    ·have:gp st p (e-p)<=e-p:=by
      unfold gp;refine zI (List.Sublist.length_le (List.takeWhile_sublist _)) ?_;rw[zO];omega
     exact this
    ·have:=h2 r a;omega
theorem jc {α:Type}(f:α->Nat)(c:Nat):∀l:List α,(∀x∈l,f x<=c)->(l.map f).sum<=l.length*c
 | [],_=>by simp
 | x::l,h=>by
  have h1:=jc f c l λy a=>h y (by simp[a]);have b:=h x aA;rw[zJ,zm,zP,zk];omega
theorem My (h:GA A)(want:Int):kq A want<=17408:=by
 unfold kq;split
 ·omega
 ·have g:=(Uq h).1;have u:(YL A).st.length<=1024:=by rw[g.ga.pg.len];exact g.ga.pg.n2
  unfold V3 HN;have a:=AG want 0 ((eM (YL A).st).flatMap (KM (YL A).st));have b:∀x,(KM (YL A).st x).length<=17/\∀r∈KM (YL A).st x,r.2<=16:=λx=>by
   have:=Ec (YL A).st (16*x+16) 17 (16*x);exact⟨this.1,λr d=>by have:=this.2 r d;omega⟩
  have i:((eM (YL A).st).flatMap (KM (YL A).st)).length<=64*17:=by
   rw[List.length_flatMap];refine zI (jc (λx=>(KM (YL A).st x).length) 17 _ λx _=>(b x).1) ?_;have s:=(LI (YL A).st).length_eq;have m:=m5 (λh=>decide (0<gA (YL A).st (16*h) (16*h+16) 2)) (List.range ((YL A).st.length/16));rw[oQ]at m;have:(eM (YL A).st).length<=64:=by omega
   omega
  have e:∀r∈(eM (YL A).st).flatMap (KM (YL A).st),r.2<=16:=λr d=>by
   obtain⟨x,_,j⟩:=rq.1 d;exact(b x).2 r j
  have p:=jc (λr:Nat×Nat=>r.2) 16 (gP want 0 ((eM (YL A).st).flatMap (KM (YL A).st))) λr d=>e r (a.subset d);have w:=a.length_le;omega
theorem Nj (h:HI H held s0)(want:Int)(n:Nat):iG H (QC H want n).1/\(QC H want n).2<=n*17408:=by
 induction n with
 | zero=>exact⟨iG.refl h,zD _⟩
 | succ n a=>
  obtain⟨a,d⟩:=a;rw[UK];split
  ·exact⟨a,zI d (lB _ (Nat.le_succ n))⟩
  ·split
   ·rename_i A hA;obtain⟨b,g,e⟩:=a.hi;refine⟨a.trans (WoH e hA _),?_⟩;have:=My (e.wi.ga n A hA) (want-((QC H want n).2:Int));simp only;omega
   ·exact⟨a,zI d (lB _ (Nat.le_succ n))⟩
theorem WI.wd {W:Wd}(h:WI W)(f:Nat->Int):WI {W with sp:={W.sp with wd:=f}}:=
 ⟨h.ga,λk A hk=>⟨(h.ow k A hk).l,(h.ow k A hk).own,(h.ow k A hk).cl,(h.ow k A hk).le⟩,h.tb,h.low,h.own,h.one,h.hk,h.hf,h.ht,h.hr⟩
theorem N5 {sp:Sp}{x:Int}(h:j5 sp x=0):0<=x/\x%8=0/\gf sp.st (x.toNat/256)≠0:=by
 unfold j5 at h;split at h
 ·cases h
 ·split at h
  ·cases h
  ·exact⟨O,O,by assumption⟩
theorem Na (sp:Sp)(x v:Int):(US sp x v).st.length=sp.st.length/\(∀p,gf (US sp x v).st p=0↔gf sp.st p=0)/\∀w,(US sp x v).wd w=if j5 sp x=0/\w=x.toNat/8 then v else sp.wd w:=by
 unfold US;split
 ·rename_i h0;have a:=N5 h0;refine⟨by simp[nT],λp=>?_,λw=>?_⟩
  ·show gf (sp.st.set (x.toNat/8/32) 2) p=0↔_;have b:x.toNat/8/32=x.toNat/256:=by omega
   rw[b];unfold gf at a ⊢;rw[zL]at a ⊢;rw[zL,ov];split
   ·rename_i he;split
    ·rw[←he];simp only[oV];exact⟨λh=>O,λh=>(a.2.2 h).elim⟩
    ·rename_i hl;rw[zZ O]at a;exact(a.2.2 rfl).elim
   ·exact Iff.rfl
  ·show(if w=x.toNat/8 then v else sp.wd w)=_
   by_cases hw:w=x.toNat/8
   ·rw[zB hw,zB ⟨h0,hw⟩]
   ·rw[zA hw,zA λh=>hw h.2]
 ·exact⟨rfl,λ_=>Iff.rfl,λw=>by rw[zA λh=>by have:=h.1;contradiction]⟩
theorem HI.write (h:HI H held s0)(x v:Int):HI {H with sp:=US H.sp x v} held {s0 with wd:=(US H.sp x v).wd}:=by
 obtain⟨a,b,_⟩:=Na H.sp x v;exact⟨h.wi.wd _,⟨a.trans h.la.l,λp=>(b p).trans (h.la.z p),rfl⟩,h.cn,h.lk,h.lv,h.gv,h.th,h.ok,h.a1,a.trans h.sl⟩
end Go.Ar
namespace Go.Ar
open Go Go.Vc Go.Proofs
variable {σ u w w':Hp}{F B P Q:Rg}{L:dR}{H H':Hw}{t n:Nat}{g:Th}
end Go.Ar
namespace Go.Proofs
open Go.Vc
set_option maxRecDepth 100000
def WX.h:Hn:=.q .o2 (.q (.q (.cV (.seq [.op,.op,.op,.dD false 2 [.op,.op]])) .aJ) (.q .o1 (.q .o1 (.q (.k (.loop [(4,.one .s),(5,.I)] (.q (.q .o2 (.c .l .l)) (.k (.q .o7 .o6))))) (.q .o6 (.q .o1 (.q (.q .o1 (.k (.loop [(6,.one .s),(7,.I)] (.q (.q .o4 (.c .l .l)) (.q (.k (.q (.cV (.iw true [] [(70,.one .b)] (.tk [0,1,2,3,4,5] (.split 43 (.tk [6,7,8,9,10,11,12,13,14,15,16,17,18,19,20,21,22,23,24,25,26,27,28,29,30,31,32] (.done)) (.tk [6,7,8,9,10,11,12,13,14,15,16,17,18,19] (.split 57 (.tk [20,21,22,23,24,25,26,27,28,29,30,31,32] (.done)) (.tk [20,21,22,23,25,26,27,28,29] (.all [(24,.all [(30,.take 31 (.take 32 (.done)))])])))))))) (.c .o8 .l))) .o3))))) (.q .o3 .l))))))))
def WX.v (a:Int)(b:Hp)(c:Sl->Int->Hp->Prop):Prop:=bY (λd e=>If d (c ⟨none,0,0⟩ 1 e) (W6 [.s,bN] (λf=>f ⟨none,0,0⟩ 8 e) λg (h:Sl) (i:Int) j=>If (i<512) (Xi.c i a j λk l m n=>aV #[.I k,.I l,.I m] 31 n λo p=>App h 3 24 31 [.I 0,.I 0,.I 0] ⟨some o,1,1⟩ p λq r=>X7.c i a r λs t=>bL (i+s) λu=>g q u t) (Xi.c 512 a j λv w x y=>aV #[.I v,.I w,.I x] 31 y λz aa=>App h 3 24 31 [.I 0,.I 0,.I 0] ⟨some z,1,1⟩ aa λab ac=>W6 [.s,bN] (λad=>ad ⟨none,0,0⟩ 0 ac) λae (af:Sl) (ag:Int) ah=>If (ag<((ab.len:Nat):Int)) (Jn [.b] (λ(ai:Bool) aj=>If ai (Ix ab.a ab.len ag 3 λak=>aQ ak 0 aj λal=>aQ ak 1 aj λam=>aQ ak 2 aj λan=>aV #[.I al,.I am,.I an] 31 aj λao ap=>App af 3 24 31 [.I 0,.I 0,.I 0] ⟨some ao,1,1⟩ ap λaq ar=>bL (ag+1) λau=>ae aq au ar) (bL (ag+1) λav=>ae af av aj)) λaw=>dT ah λax=>bL (((ab.len:Nat):Int)-1) λay=>If (ag==ay) (aw true ah) (Ix ab.a ab.len ag 3 λaz=>aS ax az 1 λa0=>bL (ag+1) λa1=>Ix ab.a ab.len a1 3 λa2=>aS ax a2 1 λa3=>If (a0 != a3) (aw true ah) (Ix ab.a ab.len ag 3 λa4=>aS ax a4 0 λa5=>aS ax a4 1 λa6=>aS ax a4 2 λa7=>bL (ag+1) λa8=>Ix ab.a ab.len a8 3 λa9=>aS ax a9 0 λba=>aS ax a9 1 λbb=>aS ax a9 2 λbc=>WT.c a5 a6 a7 ah λbd be=>And (ax be) <|
 WT.c ba bb bc be λbf bg=>And (ax bg) <| aw (bd != bf) bg))) (c af 0 ah)))) λbh=>If (a<2) (bh true b) (bh (decide (a>16)) b)
theorem WX.o {a b c}(d:WX.v a b c):WX.c a b c:=Wa Tryz.func16 (x:=WX.h) (R0 d)
def WT.h:Hn:=.q .o2 (.q .o1 (.q (.k (.loop [(3,.I)] (.q (.q .o9 (.c .l .l)) (.k .o3)))) .aL))
def WT.v (a b c:Int)(d:Hp)(e:aN):Prop:=aV #[.I a,.I b,.I c] 31 d λf g=>W6 [bN] (λh=>h 0 g) λi (j:Int) k=>bL (j+1) λl=>aQ f 0 k λm=>bL (l*m) λn=>aQ f 1 k λo=>bL (o*256) λp=>If (n<=p) (bL (j+1) λq=>i q k) (e j k)
theorem WT.o {a b c d e}(f:WT.v a b c d e):WT.c a b c d e:=Wa Tryz.func18 (x:=WT.h) (R0 f)
def Xi.h:Hn:=.q .o1 (.q .o8 (.q (.q .o1 (.k (.loop [(6,.I)] (.q (.q .o2 (.c .l .l)) (.q (.k (.q (.cV (.seq [.op,.op,.op,.op,.op,.dD true 9 (RI.ops 9)])) (.c .o3 .l))) .o3))))) .aL))
def Xi.v (a b:Int)(c:Hp)(d:Int->Int->Int->Hp->Prop):Prop:=aV #[.I 0,.I 0,.I 0] 31 c λe f=>Nz a<|bL ((512:Int).tdiv a) λg=>aV #[.I 0,.I 0,.I 0] 31 f λh i=>aR h 0 (.I a) i λj=>aR h 1 (.I 4) j λk=>aR h 2 (.I (if 32<(if 2>g then 2 else g)then 32 else(if 2>g then 2 else g))) k λl=>W6 [bN] (λm=>m 4 l) λn (o:Int) p=>If (o≥1) (bL (o*256) λq=>bY (λr s=>If r (aR h 1 (.I o) s λt=>bL (o-1) λu=>n u t) (bL (o-1) λv=>n v s)) λw=>If (q≥a) (bL (o*256) λx=>Nz a <| bL (b*(x.tmod a)) λy=>bL (o*256) λz=>w (decide (y<=z)) p) (w false p)) (aQ h 0 p λaa=>aQ h 1 p λab=>aQ h 2 p λac=>aR e 0 (.I aa) p λad=>aR e 1 (.I ab) ad λae=>aR e 2 (.I ac) ae λaf=>aQ e 0 af λag=>aQ e 1 af λah=>aQ e 2 af λai=>d ag ah ai af)
theorem Xi.o {a b c d}(e:Xi.v a b c d):Xi.c a b c d:=Wa Tryz.func47 (x:=Xi.h) (R0 e)
def X7.h:Hn:=.q .o1 (.q .o1 (.q (.k (.loop [(5,.I)] (.q (.q .o6 (.c .l .l)) (.k .o3)))) .aL))
def X7.v (a b:Int)(c:Hp)(d:aN):Prop:=W6 [bN] (λe=>e 8 c) λf (g:Int) h=>bL (2*g) λi=>Nz b<|bL (a.tdiv b) λj=>If (i<=j) (bL (2*g) λk=>f k h) (d g h)
theorem X7.o {a b c d}(e:X7.v a b c d):X7.c a b c d:=Wa Tryz.func48 (x:=X7.h) (R0 e)
end Go.Proofs
namespace Go.Ar
open Go Go.Vc Go.Proofs
variable {σ w:Hp}
abbrev T3:=Int×Int×Int
def v3 (x:T3):List Value:=[.int .i64 x.1,.int .i64 x.2.1,.int .i64 x.2.2]
def kx (l:List T3):List Value:=l.flatMap v3
theorem Ua (l:List T3):(kx l).length=l.length*3:=by
 induction l with
 | nil=>rfl
 | cons x l ih=>simp only[kx,mO,zK,v3,zP,mh]at *;omega
theorem CD (l:List T3)(x:T3):kx (l++[x])=kx l++v3 x:=by simp[kx]
theorem H9:∀{l:List T3} {i:Nat} {x:T3},l[i]?=some x->∀{d:Nat},d<3->(kx l)[i*3+d]?=(v3 x)[d]?
 | [],_,_,h,_,_=>by simp at h
 | y::l,0,x,h,d,hd=>by
  simp at h;subst h;have e:kx (y::l)=v3 y++kx l:=rfl;rw[e,zd (by simp[v3];omega)];congr 1;omega
 | y::l,i+1,x,h,d,hd=>by
  have e:kx (y::l)=v3 y++kx l:=rfl;have a:(v3 y).length=3:=rfl;rw[e,zn O,a,show(i+1)*3+d-3=i*3+d by omega];exact H9 (by simpa using h) hd
theorem JA {Q:Rg}{s:Sl}{l:List T3}(h:Own Q σ s 3 (kx l)):gB σ s l:=by
 have m:=h.1;rw[Ua]at m;refine⟨O,λi x y z d=>?_⟩;obtain⟨b,e,g⟩:=h.cell (j:=i*3+0) (v:=.int .i64 x) ((H9 d O).trans rfl);obtain⟨r,a,p⟩:=h.cell (j:=i*3+1) (v:=.int .i64 y) ((H9 d O).trans rfl);rw[e]at a;cases a;obtain⟨r,a,u⟩:=h.cell (j:=i*3+2) (v:=.int .i64 z) ((H9 d O).trans rfl);rw[e]at a;cases a;refine⟨b,0,e,QH g,?_,?_,?_⟩
 ·rw[show 0+i*3=i*3+0 by omega];exact g
 ·rw[show 0+i*3+1=i*3+1 by omega];exact p
 ·rw[show 0+i*3+2=i*3+2 by omega];exact u
def sX (s w:Int)(n:Nat):Int:=([4,3,2,1].take n).foldl (λ(r p:Int)=>if s<=p*256/\w*((p*256)%s)<=p*256 then p else r) 4
def yL (s:Int):Int:=min 32 (max 2 (512/s))
def l8 (s w:Int):T3:=(s,sX s w 4,yL s)
def xF:Nat->Int->Int->Int
 | 0,d,_=>d
 | n+1,d,q=>if 2*d<=q then xF n (2*d) q else d
def xA (s w:Int):Int:=xF 8 8 (s/w)
def np (x:T3):Int:=x.2.1*256/x.1
theorem ND (s w:Int)(n:Nat):1<=sX s w n/\sX s w n<=4:=by
 have key:∀(l:List Int) (r:Int),(∀p∈l,1<=p/\p<=4)->1<=r/\r<=4->1<=l.foldl (λ(r p:Int)=>if s<=p*256/\w*((p*256)%s)<=p*256 then p else r) r/\l.foldl (λ(r p:Int)=>if s<=p*256/\w*((p*256)%s)<=p*256 then p else r) r<=4:=by
  intro l
  induction l with
  | nil=>intro r _ h;exact h
  | cons p l ih=>
   intro r hl hr;rw[lp];refine ih _ (λq b=>hl q (kL _ b)) ?_;split
   ·exact hl p kX
   ·exact hr
 refine key _ _ (λp a=>?_) O;have:=mc a;simp at this;omega
theorem IS (s w:Int)(h1:8<=s)(h2:s<=512)(hw1:2<=w)(hw2:w<=16){R:Int->Int->Int->Hp->Prop}(hR:∀σ',bO σ σ'->R (l8 s w).1 (l8 s w).2.1 (l8 s w).2.2 σ'):Xi.c s w σ R:=by
 refine Xi.o ?_;unfold Xi.v;have P:1<=512/s/\512/s<=64:=⟨by rw[Int.le_ediv_iff_mul_le O];omega,Int.ediv_le_of_le_mul O O⟩;refine nw (cs:=[.int .i64 0,.int .i64 0,.int .i64 0]) λv hz e Z=>nz O (ar (by rw[YN O];omega) (by rw[YN O];omega) ?_);rw[YN O];refine nw (cs:=[.int .i64 0,.int .i64 0,.int .i64 0]) λv1 Y F E=>E.s1 aA λv2 o2 D=>D.s1 aA λaa o3 m=>m.s1 aA λv4 o4 K=>?_;have b:σ.size≠v.size:=by omega
 have y:=Ws o4 (Ws o3 (Ws o2 (F.bZ Z id) b) b) b;have V:bO σ v4:=((((e.trans F).only o2 (.inr O)).only o3 (.inr O)).only o4 (.inr O));have j:(if 32<(if 2>512/s then 2 else 512/s)then 32 else(if 2>512/s then 2 else 512/s))=yL s:=by unfold yL;omega
 rw[j]at K;refine ZU (a:=bN) (λ(z:Int) u=>∃n:Nat,n<=4/\z=4-(n:Int)/\bO σ u/\bX u σ.size [.int .i64 0,.int .i64 0,.int .i64 0]/\bX u v.size [.int .i64 s,.int .i64 (sX s w n),.int .i64 (yL s)]) (λz _=>z.toNat) ⟨0,O,rfl,V,y,K⟩ ?_;rintro(z:Int) u ⟨n,hn,rfl,eu,hu,bu⟩;refine cI (λab=>?_) λM=>?_
 ·have W:n<4:=by omega
  have d:sX s w (n+1)=if s<=(4-(n:Int))*256/\w*(((4-(n:Int))*256)%s)<=(4-(n:Int))*256 then 4-(n:Int)else sX s w n:=by
   have L:([4,3,2,1]:List Int)[n]?=some (4-(n:Int)):=by
    rcases(show n=0\/n=1\/n=2\/n=3 by omega)with rfl|rfl|rfl|rfl<;>rfl
   unfold sX;rw[zg,L,mN];rfl
  refine ar O O ?_;refine Ha (λr H=>H=u/\r=decide (s<=(4-(n:Int))*256/\w*(((4-(n:Int))*256)%s)<=(4-(n:Int))*256)) (λr H ⟨A,x⟩=>?_) λJ G=>?_
  ·subst A;by_cases hc:s<=(4-(n:Int))*256/\w*(((4-(n:Int))*256)%s)<=(4-(n:Int))*256
   ·rw[zV hc]at x;rw[zB hc]at d;refine cK x (bu.s1 aA λS o1 B=>ar O O ⟨⟨n+1,O,O,eu.only o1 (.inr O),Ws o1 hu b,by rw[d];exact B⟩,O⟩)
   ·rw[zh hc]at x;rw[zA hc]at d;exact cG x (ar O O ⟨⟨n+1,O,O,eu,hu,by rw[d];exact bu⟩,O⟩)
  ·have p:=Int.emod_nonneg ((4-(n:Int))*256) (show s≠0 by omega);have N:=Int.emod_lt_of_pos ((4-(n:Int))*256) (show 0<s by omega);have Q:w*(((4-(n:Int))*256)%s)<=16*512:=Int.mul_le_mul hw2 O p O;have X:0<=w*(((4-(n:Int))*256)%s):=Int.mul_nonneg O p;refine cI (λh1=>ar O O (nz O ?_)) λh1=>G _ _ ⟨rfl,(zh λg=>h1 g.1).symm⟩;rw[Q8 O];refine ar O O (ar O O (G _ _ ⟨rfl,?_⟩));rw[decide_eq_decide];exact⟨λg=>⟨h1,g⟩,λg=>g.2⟩
 ·have C:n=4:=by omega
  subst C;refine bu.rI rfl (bu.rI rfl (bu.rI rfl (hu.s1 aA λS o1 B=>B.s1 aA λu2 o2 D=>D.s1 aA λU o3 m=>m.rI rfl (m.rI rfl (m.rI rfl (hR U ?_))))));exact((eu.only o1 (.inr O)).only o2 (.inr O)).only o3 (.inr O)
theorem π (s w:Int)(h1:8<=s)(h2:s<=512)(hw1:2<=w){R:aN}(hR:8<=xA s w->xA s w<=256->R (xA s w) σ):X7.c s w σ R:=by
 refine X7.o ?_;unfold X7.v;have g:0<=s/w/\s/w<=256:=⟨Int.ediv_nonneg O O,by
  have:s/w<=s/2:=by
   apply Int.le_ediv_of_mul_le O;have:=Int.ediv_mul_le s (show w≠0 by omega);have j:s/w*2<=s/w*w:=BU hw1 (Int.ediv_nonneg O O);omega
  omega⟩
 refine ZU (a:=bN) (λ(d:Int) u=>u=σ/\∃n:Nat,xF n d (s/w)=xA s w/\8<=d/\d<=256/\512<=d*2^n) (λd _=>1000-d.toNat) ⟨rfl,8,rfl,O,O,by decide⟩ ?_;rintro(d:Int) u ⟨rfl,n,hst,hd1,hd2,hdn⟩;refine ar O O (nz O (ar (by rw[YN O];omega) (by rw[YN O];omega) ?_));rw[YN O];cases n with
 | zero=>simp at hdn;omega
 | succ n=>
  refine cI (λe=>ar O O ⟨⟨rfl,n,?_,O,O,?_⟩,O⟩) λb=>?_
  ·rw[xF,zB e]at hst;exact hst
  ·rw[Int.pow_succ]at hdn;have:2*d*2^n=d*(2^n*2):=by rw[Int.mul_comm 2 d,Int.mul_assoc,Int.mul_comm 2 (2^n)]
   omega
  ·rw[xF,zA b]at hst;rw[←hst]at hR;exact hR hd1 hd2
theorem Jf (x:T3)(h1:8<=x.1)(h2:x.1<=512)(h3:1<=x.2.1)(h4:x.2.1<=4){R:aN}(hR:∀σ',bO σ σ'->R (np x) σ'):WT.c x.1 x.2.1 x.2.2 σ R:=by
 refine WT.o ?_;unfold WT.v;refine nw (cs:=[.int .i64 x.1,.int .i64 x.2.1,.int .i64 x.2.2]) λv s e j=>?_;refine ZU (a:=bN) (λ(n:Int) u=>bO σ u/\bX u σ.size [.int .i64 x.1,.int .i64 x.2.1,.int .i64 x.2.2]/\0<=n/\n<=128/\n*x.1<=x.2.1*256) (λn _=>1000-n.toNat) ⟨e,j,O,O,O⟩ ?_;rintro(n:Int) u ⟨eu,bu,hn0,hn1,hn⟩;have r:(n+1)*x.1<=129*512:=Int.mul_le_mul O h2 O O;have m:0<=(n+1)*x.1:=Int.mul_nonneg O O;refine ar O O (bu.rI rfl (ar O O (bu.rI rfl (ar O O ?_))));refine cI (λb=>ar O O ⟨⟨eu,bu,O,?_,b⟩,O⟩) λg=>?_
 ·have:(n+1)*8<=(n+1)*x.1:=BU h1 O;omega
 ·have:np x=n:=by
   unfold np;have w:n<=x.2.1*256/x.1:=(Int.le_ediv_iff_mul_le O).2 hn;have p:x.2.1*256/x.1<n+1:=(Int.ediv_lt_iff_lt_mul O).2 O;omega
  have d:=hR u eu;rw[this]at d;exact d
def iB:Nat->Int->Int->List T3
 | 0,_,_=>[]
 | n+1,s,w=>if s<512 then l8 s w::iB n (s+xA s w) w else[]
def allM (w:Int):List T3:=iB 64 8 w++[l8 512 w]
def oY (l:List T3)(i:Nat):Bool:=i==l.length-1||(match l[i]?,l[i+1]? with
 | some x,some y=>x.2.1 != y.2.1||np x != np y
 | _,_=>false)
def mC (l:List T3)(n:Nat):List T3:=(List.range n).filterMap λi=>if oY l i then l[i]? else none
def qI (w:Int):List T3:=mC (allM w) (allM w).length
def ui (x:T3):Prop:=8<=x.1/\x.1<=512/\1<=x.2.1/\x.2.1<=4
theorem F6 (s w:Int)(h1:8<=s)(h2:s<=512):ui (l8 s w):=⟨h1,h2,ND s w 4⟩
theorem uw {Q:Rg}{s:Sl}{l:List T3}{e1 e2:Nat}(ho:Own Q σ s 3 (kx l))(hQ:∀b,σ.size<=b->Q b)(hl:l.length<=1000)(x:T3){K:Sl->Hp->Prop}(hK:∀s' σ',Ext Q σ σ'->Own Q σ' s' 3 (kx (l++[x]))->K s' σ') :
 Nw (.cells #[.int .i64 x.1,.int .i64 x.2.1,.int .i64 x.2.2] e1 (0,0)) σ λn20 v3=>App s 3 24 e2 [.int .i64 0,.int .i64 0,.int .i64 0] ⟨some n20,1,1⟩ v3 K:=by
 have m:s.len=l.length:=by have:=ho.1;rw[Ua]at this;omega
 refine nw (cs:=v3 x) λv p e a=>?_;refine(ho.bK e).app (ys:=v3 x) (λb a=>hQ b O) rfl rfl ?_ (by simp[v3,dN]) ?_ ?_ nA λs' d _ i g _=>hK s' d ?_ ?_
 ·intro j u hu;rw[add_lit,zG,a.cell];exact hu
 ·simp only;have:(s.len+1)*24<=1001*24:=kO O O;omega
 ·simp only;omega
 ·exact(bO.to e).trans (i.sub λb a=>((ho.bK e).jM a).1)
 ·rw[CD];exact g
theorem Wlz (w:Int)(h:w<2\/16<w){R:Sl->Int->Hp->Prop}(hR:R ⟨none,0,0⟩ 1 σ):WX.c w σ R:=by
 refine WX.o ?_;unfold WX.v;exact bY.intro (cI (λa=>cK rfl hR) λa=>cK (zV O) hR)
theorem FC (w:Int)(hw1:2<=w)(hw2:w<=16){R:Sl->Int->Hp->Prop}(hR:∀s' σ',bO σ σ'->gB σ' s' (qI w)->R s' 0 σ'):WX.c w σ R:=by
 refine WX.o ?_;unfold WX.v;refine bY.intro (fH O (cG (zh O) ?_));refine Kf (a:=.s) (bb:=bN) (λ(all:Sl) (s:Int) u=>∃(n:Nat) (done:List T3),8<=s/\s<=768/\bO σ u/\Own (λb=>σ.size<=b) u all 3 (kx done)/\done++iB n s w=iB 64 8 w/\512<=s+8*(n:Int)/\(∀x∈done,ui x)/\done.length+n=64) (λ_ s _=>1000-s.toNat) ⟨64,[],O,O,Ext.refl _ _,Own.nil _ _ _,rfl,O,by simp,by simp⟩ ?_;rintro(all:Sl) (s:Int) u ⟨n,done,hs1,hs2,eu,ho,hdone,hn,hok,hlen⟩;refine cI (λM=>?_) λW=>?_
 ·obtain⟨n,rfl⟩:∃m,n=m+1:=⟨n-1,O⟩;refine IS s w O O hw1 hw2 λv2 e2=>?_;refine uw (ho.bK e2) (λb E=>by have:=eu.1;have:=e2.1;omega) O (l8 s w) λall1 v4 e4 h4=>?_;have e04:bO σ v4:=Ext.fC (eu.trans e2) e4 λb E=>.inr E;refine π s w O O hw1 λd1 d2=>ar O O ⟨⟨n,done++[l8 s w],O,O,e04,h4,?_,O,λx B=>?_,by simp;omega⟩,O⟩
  ·rw[←hdone,kJ]
   congr 1
   conv=>rhs;rw[iB,zB M]
   rfl
  ·rcases zR.1 B with h1|h1
   ·exact hok x h1
   ·rw[zW]at h1;subst h1;exact F6 s w O O
 ·have P:iB n s w=[]:=by
   cases n with
   | zero=>rfl
   | succ n=>rw[iB,zA W]
  rw[P,j9]at hdone;refine IS 512 w O O hw1 hw2 λv6 e6=>?_;refine uw (ho.bK e6) (λb E=>by have:=eu.1;have:=e6.1;omega) O (l8 512 w) λe v8 e8 J=>?_;have e08:bO σ v8:=Ext.fC (eu.trans e6) e8 λb E=>.inr E;rw[hdone]at J;have j:∀x∈allM w,ui x:=λx B=>by
   rcases zR.1 B with h1|h1
   ·rw[←hdone]at h1;exact hok x h1
   ·rw[zW]at h1;subst h1;exact F6 512 w O O
  have hml:(allM w).length<=65:=by unfold allM;rw[←hdone];simp;omega
  have J:Own (λb=>σ.size<=b) v8 e 3 (kx (allM w)):=J;generalize hall:allM w=l at J j hml;have hmk:qI w=mC l l.length:=by unfold qI;rw[hall]
  have hl2:e.len=l.length:=by have:=J.1;rw[Ua]at this;omega
  refine Kf (a:=.s) (bb:=bN) (λ(out:Sl) (z:Int) u=>∃i:Nat,z=(i:Int)/\i<=l.length/\bO v8 u/\Own (λb=>v8.size<=b) u out 3 (kx (mC l i))/\(mC l i).length<=i) (λ_ z _=>l.length-z.toNat) ⟨0,rfl,O,Ext.refl _ _,Own.nil _ _ _,by simp[mC]⟩ ?_;rintro(out:Sl) (z:Int) u ⟨i,rfl,hi,eu8,hout,hol⟩;refine cI (λM=>?_) λW=>?_
  ·have hi':i<l.length:=by omega
   have B:l[i]?=some l[i]:=cM hi';generalize l[i]=x at B;have C:=j x (zE B);have g:mC l (i+1)=mC l i++(if oY l i then[x]else[]):=by
    unfold mC;rw[zz,vq]
    congr 1
    by_cases hk:oY l i=true
    ·simp[hk,B]
    ·simp[hk]
   have hA:∀m,bO u m->gB m e l:=λm d=>JA (J.bK (eu8.trans d));refine Cp (λr u'=>bO u u'/\r=oY l i) (λr u' ⟨A,Y⟩=>?_) λJ3 G=>?_
   ·have V:=hout.bK A;cases hk:oY l i with
    | true=>
     rw[hk]at Y g;refine cK Y (U3 (hA u' A) B ?_);refine uw V (λb E=>by have:=eu8.1;have:=A.1;omega) O x λout1 v12 e12 h12=>?_;refine cA (m:=i+1) O O ⟨⟨i+1,rfl,O,Ext.fC (eu8.trans A) e12 λb E=>.inr E,?_,?_⟩,O⟩
     ·rw[g];exact h12
     ·rw[g];simp;omega
    | false=>
     rw[hk]at Y g;refine cG Y (cA (m:=i+1) O O ⟨⟨i+1,rfl,O,eu8.trans A,?_,?_⟩,O⟩)
     ·rw[g];simpa using V
     ·rw[g];simp;omega
   ·refine⟨λm=>bO u m,Ext.refl _ _,ar O O ?_⟩;refine cU (λF=>G _ _ ⟨Ext.refl _ _,?_⟩) λhnl=>?_
    ·have:i=l.length-1:=by simp only[zX]at F;omega
     unfold oY;rw[this];simp
    ·have hi2:i+1<l.length:=by simp only[m0]at hnl;omega
     have X:l[i+1]?=some l[i+1]:=cM hi2;generalize l[i+1]=y at X;have D:=j y (zE X);have U:oY l i=(x.2.1 != y.2.1||np x != np y):=by
      unfold oY;rw[B,X];have:(i==l.length-1)=false:=by simp only[m0];omega
      rw[this];rfl
     have L:=λ(m:Hp) (d:bO u m)=>(hA m d).2 i x.1 x.2.1 x.2.2 B;have hcy:=λ(m:Hp) (d:bO u m)=>(hA m d).2 (i+1) y.1 y.2.1 y.2.2 X;obtain⟨b,o,ha,_,_⟩:=L u (Ext.refl _ _);have Z:∀m,bO u m->cell m ⟨b,o+i*3,none⟩=some (.int .i64 x.1)/\cell m ⟨b,o+i*3+1,none⟩=some (.int .i64 x.2.1)/\cell m ⟨b,o+i*3+2,none⟩=some (.int .i64 x.2.2):=λm d=>by
      obtain⟨b',o',p,_,h⟩:=L m d;rw[ha]at p;cases p;exact h
     have ry:∀m,bO u m->cell m ⟨b,o+(i+1)*3,none⟩=some (.int .i64 y.1)/\cell m ⟨b,o+(i+1)*3+1,none⟩=some (.int .i64 y.2.1)/\cell m ⟨b,o+(i+1)*3+2,none⟩=some (.int .i64 y.2.2):=λm d=>by
      obtain⟨b',o',p,_,h⟩:=hcy m d;rw[ha]at p;cases p;exact h
     have N:∀{K:Addr->Prop},K ⟨b,o+i*3,none⟩->Ix e.a e.len (i:Int) 3 K:=λhK=>by
      rw[ha];exact ix O O (by rw[add_lit,dC];exact hK)
     have S:∀{K:Addr->Prop},K ⟨b,o+(i+1)*3,none⟩->Ix e.a e.len ((i+1:Nat):Int) 3 K:=λhK=>by
      rw[ha];exact ix O O (by rw[add_lit,dC];exact hK)
     refine N ⟨x.2.1,λm d=>by rw[add_lit];exact(Z m d).2.1,cA (m:=i+1) O O (S ⟨y.2.1,λm d=>by rw[add_lit];exact(ry m d).2.1,?_⟩)⟩;refine cU (λhp=>G _ _ ⟨Ext.refl _ _,by rw[U,hp];rfl⟩) λhp=>?_;refine N ⟨x.1,λm d=>by rw[add_lit];exact(Z m d).1,⟨x.2.1,λm d=>by rw[add_lit];exact(Z m d).2.1,⟨x.2.2,λm d=>by rw[add_lit];exact(Z m d).2.2,?_⟩⟩⟩;refine cA (m:=i+1) O O (S ⟨y.1,λm d=>by rw[add_lit];exact(ry m d).1,⟨y.2.1,λm d=>by rw[add_lit];exact(ry m d).2.1,⟨y.2.2,λm d=>by rw[add_lit];exact(ry m d).2.2,?_⟩⟩⟩);refine Jf x C.1 C.2.1 C.2.2.1 C.2.2.2 λv13 H=>⟨H,Jf y D.1 D.2.1 D.2.2.1 D.2.2.2 λv14 Q=>⟨H.trans Q,G _ _ ⟨H.trans Q,by rw[U,hp];rfl⟩⟩⟩
  ·have hil:i=l.length:=by omega
   subst hil;refine hR out u (e08.trans eu8) ?_;rw[hmk];exact JA hout
theorem Gj:∀w:Nat,2<=w->w<=16->Qd (qI (w:Int))=true:=by
 have h:((List.range 17).all λw=>decide (w<2)||Qd (qI (w:Int)))=true:=by decide +kernel
 intro w h1 h2;have:=kM.1 h w (zU.2 O);simp only[nV,zS]at this;exact this.resolve_left O
end Go.Ar
namespace Go.Proofs
open Go.Shelf
def Tryz.eT:Go.Shelf.Ren:=⟨fun|6=>261|15=>129|14=>284|28=>167|29=>168|20=>303|21=>304|22=>305|23=>306|24=>307|25=>308|26=>309|27=>310|46=>316|47=>206|48=>207|49=>317|50=>318|57=>320|n=>n,fun|22=>124|24=>130|25=>346|3=>3|39=>199|0=>0|53=>255|55=>257|4=>4|46=>248|45=>247|50=>252|5=>5|9=>9|66=>299|70=>105|76=>335|77=>336|n=>n,fun|n=>n⟩
theorem Tryz.pe:Go.Proofs.SlLaysF0.n6 Tryz.prog Tryz.eT:={
 mixed:=by kernel_rfl
 f6:=⟨Tryz.f261.name,by decide,Tryz.func261.trans (congrArg some (by kernel_rfl))⟩
 f14:=⟨Tryz.f284.name,by decide,Tryz.func284.trans (congrArg some (by kernel_rfl))⟩
 f15:=Tryz.func129.trans (congrArg some (by kernel_rfl))
 f20:=⟨Tryz.f303.name,by decide,Tryz.func303.trans (congrArg some (by kernel_rfl))⟩
 f21:=⟨Tryz.f304.name,by decide,Tryz.func304.trans (congrArg some (by kernel_rfl))⟩
 f22:=⟨Tryz.f305.name,by decide,Tryz.func305.trans (congrArg some (by kernel_rfl))⟩
 f23:=⟨Tryz.f306.name,by decide,Tryz.func306.trans (congrArg some (by kernel_rfl))⟩
 f24:=⟨Tryz.f307.name,by decide,Tryz.func307.trans (congrArg some (by kernel_rfl))⟩
 f25:=⟨Tryz.f308.name,by decide,Tryz.func308.trans (congrArg some (by kernel_rfl))⟩
 f26:=⟨Tryz.f309.name,by decide,Tryz.func309.trans (congrArg some (by kernel_rfl))⟩
 f27:=⟨Tryz.f310.name,by decide,Tryz.func310.trans (congrArg some (by kernel_rfl))⟩
 f28:=Tryz.func167.trans (congrArg some (by kernel_rfl))
 f29:=Tryz.func168.trans (congrArg some (by kernel_rfl))
 f46:=⟨Tryz.f316.name,by decide,Tryz.func316.trans (congrArg some (by kernel_rfl))⟩
 f47:=Tryz.func206.trans (congrArg some (by kernel_rfl))
 f48:=Tryz.func207.trans (congrArg some (by kernel_rfl))
 f49:=⟨Tryz.f317.name,by decide,Tryz.func317.trans (congrArg some (by kernel_rfl))⟩
 f50:=⟨Tryz.f318.name,by decide,Tryz.func318.trans (congrArg some (by kernel_rfl))⟩
 f57:=⟨Tryz.f320.name,by decide,Tryz.func320.trans (congrArg some (by kernel_rfl))⟩
 t0:=Tryz.underlying0
 a0:=Tryz.isAgg0
 z0:=Tryz.sizeOf0
 v0:=Tryz.zeroValue0
 t3:=Tryz.underlying3
 a3:=Tryz.isAgg3
 z3:=Tryz.sizeOf3
 v3:=Tryz.zeroValue3
 t4:=Tryz.underlying4
 a4:=Tryz.isAgg4
 z4:=Tryz.sizeOf4
 v4:=Tryz.zeroValue4
 t5:=Tryz.underlying5
 a5:=Tryz.isAgg5
 z5:=Tryz.sizeOf5
 v5:=Tryz.zeroValue5
 t9:=Tryz.underlying9
 a9:=Tryz.isAgg9
 z9:=Tryz.sizeOf9
 v9:=Tryz.zeroValue9
 t22:=Tryz.underlying124
 a22:=Tryz.isAgg124
 z22:=Tryz.sizeOf124
 v22:=Tryz.zeroValue124
 t25:=Tryz.underlying346
 a25:=Tryz.isAgg346
 z25:=Tryz.sizeOf346
 v25:=Tryz.zeroValue346
 t39:=Tryz.underlying199
 a39:=Tryz.isAgg199
 z39:=Tryz.sizeOf199
 v39:=Tryz.zeroValue199
 t45:=Tryz.underlying247
 a45:=Tryz.isAgg247
 z45:=Tryz.sizeOf247
 v45:=Tryz.zeroValue247
 t46:=Tryz.underlying248
 a46:=Tryz.isAgg248
 z46:=Tryz.sizeOf248
 v46:=Tryz.zeroValue248
 t50:=Tryz.underlying252
 a50:=Tryz.isAgg252
 z50:=Tryz.sizeOf252
 v50:=Tryz.zeroValue252
 t53:=Tryz.underlying255
 a53:=Tryz.isAgg255
 z53:=Tryz.sizeOf255
 v53:=Tryz.zeroValue255
 t55:=Tryz.underlying257
 a55:=Tryz.isAgg257
 z55:=Tryz.sizeOf257
 v55:=Tryz.zeroValue257
 t66:=Tryz.underlying299
 a66:=Tryz.isAgg299
 z66:=Tryz.sizeOf299
 v66:=Tryz.zeroValue299
 t70:=Tryz.underlying105
 a70:=Tryz.isAgg105
 z70:=Tryz.sizeOf105
 v70:=Tryz.zeroValue105
 t76:=Tryz.underlying335
 a76:=Tryz.isAgg335
 z76:=Tryz.sizeOf335
 v76:=Tryz.zeroValue335
 t77:=Tryz.underlying336
 a77:=Tryz.isAgg336
 z77:=Tryz.sizeOf336
 v77:=Tryz.zeroValue336}
end Go.Proofs
namespace Go.Ar
open Go Go.Vc Go.Proofs Go.RowKit Go.Sort Go.Shelf Go.Lib
abbrev tN:=Fin 64×Sl
instance:Inhabited tN:=⟨(0,⟨none,0,0⟩)⟩
def ld (x:tN):List Value:=[.int .i64 (x.1.val:Int),.slice x.2.a x.2.len x.2.cap]
def pE (x y:tN):Int:=(x.1.val:Int)-(y.1.val:Int)
theorem Dr (x y:tN)(W:World):Calls Tryz.prog 262 #[.agg #[.int .i64 (x.1.val:Int),.slice x.2.a x.2.len x.2.cap],.agg #[.int .i64 (y.1.val:Int),.slice y.2.a y.2.len y.2.cap]] W λe w'=>e=.returned (.int .i64 (pE x y))/\∃q os',w'=grow (W.drewN q) os':=by
 have g:IntKind.i64.wrap ((x.1.val:Int)-(y.1.val:Int))=pE x y:=by
  have b:=x.1.isLt;have d:=y.1.isLt;unfold pE;exact UM O O
 go_enter Tryz.func262,Tryz.ntmps262
 go_wp2
 go_ret
 exact⟨rfl,0,_,by rw[alloc_eq_grow,alloc_eq_grow,grow_grow];rfl⟩
theorem Ea:SWO (ltOf pE) where
 irrefl x:=by simp[ltOf,pE]
 trans x y z a h2:=by
  have a:=pS a;have h2:=pS h2;unfold pE at a h2;exact zV (by unfold pE;omega)
 ntrans x y z a h2:=by
  have a:=sg a;have h2:=sg h2;unfold pE at a h2;exact zh (by unfold pE;omega)
def uE (x:tN):Nat×Sl:=(x.1.val,x.2)
theorem IB (l:List tN)(j:Nat)(hj:j<l.length*2):(fN (l.map uE))[j]?=some (flatK ld 2 l.toArray)[j]! := by
 rw[get_flatK _ _ _ _ (by simpa using hj)];have a:j/2<l.length:=by omega
 have e:l.toArray[j/2]! = l[j/2]:=by rw[getElem!_pos _ _ (by simpa using a)];simp
 have b:(l.map uE)[j/2]?=some (uE l[j/2]):=by simp[a]
 have:=Ti b (d:=j%2) O;rw[show 2*(j/2)+j%2=j by omega]at this;rw[this,e];have hd:j%2=0\/j%2=1:=by omega
 rcases hd with h|h<;>rw[h]<;>rfl
theorem DY:H6:=by
 intro σ F s xs hrow hk hlen R hR;rintro w rfl;have hsl:s.len=xs.length:=by have:=hrow.1;rw[KF]at this;omega
 rcases hrow.2 with⟨h0,hc0⟩|⟨b,cs,hF,ha,hb,hle,hcl,ht⟩
 ·have H:xs=[]:=xW.1 O;have:=AnyF.slices_SortFunc_none Tryz.pe s.a s.cap (.func (.func 262) #[] #[]) w;show Calls _ _ #[.slice s.a s.len s.cap,.func (.func 262) #[] #[]] w _;rw[h0];refine this.mono ?_;rintro e X ⟨rfl,rfl⟩;subst H;exact⟨.refl _,[],rfl,hR [] _ (.refl _) List.Pairwise.nil (Ext.refl _ _) hrow⟩
 ·have G:∀x∈xs,x.1<64:=hk
  let toK:Nat×Sl->tN:=λx=>(Fin.ofNat 64 x.1,x.2)
  have u:(xs.map toK).map uE=xs:=by
   rw[zt]
   conv=>rhs;rw[←wa xs]
   apply kD;intro x hx;simp only[Function.comp,toK,uE,Fin.ofNat,id];rw[uM (G x hx)]
  have L:(xs.map toK).length=xs.length:=by simp
  generalize xs.map toK=l at u L;have z:=hb.lt;have W:HoldsK ld 2 w b 0 l.toArray:=by
   intro j hj;simp only[size_flatK,ya]at hj;have V:Vc.cell w.heap ⟨b,0+j,none⟩=some (flatK ld 2 l.toArray)[j]! := by
    rw[hb.cell,zG,←IB l j hj,u];rw[←ht,zY,zB (by rw[KF];omega)]
   exact⟨V,hb.oO⟩
  have eg:∀args w,(callFunc 262 args).run Tryz.prog w=.ok (.enter 262 args) w:=enters_of Tryz.func262 (by kernel_rfl) rfl;have B:∀w,(isAgg (Tryz.eT.t 24)).run Tryz.prog w=.ok true w:=λw=>by
   have h:=KK (P:=Tryz.prog) (t:=Tryz.eT.t 24) (d:=(Tryz.prog.underlying (Tryz.eT.t 24)).getD .bool) (by kernel_rfl) w
   rwa [show Ux ((Tryz.prog.underlying (Tryz.eT.t 24)).getD .bool)=true by kernel_rfl]at h
  have N:∀w,(Go.sizeOf (Tryz.eT.t 24)).run Tryz.prog w=.ok 2 w:=λw=>by
   have h:=QV (P:=Tryz.prog) (t:=Tryz.eT.t 24) (by kernel_rfl) w
   rwa [show Tryz.prog.cellsOf (Tryz.eT.t 24)=2 by kernel_rfl]at h
  have C:=AnyQ.slices_SortFunc Tryz.pe 2 B N ld (λ_=>rfl) (λx v S=>by simp only[ld,zQ,List.not_mem_nil,or_false]at S;rcases S with rfl|rfl<;>rfl) pE Ea 262 #[] b 0 s.cap l.toArray w eg (λ_ _ _ _ x y=>Dr x y _) W z (by simp only[ya];omega)
  show Calls _ _ #[.slice s.a s.len s.cap,.func (.func 262) #[] #[]] w _;rw[ha,show s.len=l.toArray.size by simp only[ya];omega];refine C.mono ?_;rintro e X ⟨rfl,d',n,os,Q,M,rfl⟩;have g:d'.size=l.length:=by simpa using Q.1
  have r:d'.toList.Perm l:=by
   have K:=Q.2.2;rw[show l.toArray.size=d'.size by simp[g]]at K;have Z:(d'.extract 0 d'.size)=d':=by simp
   have e2:(l.toArray.extract 0 d'.size)=l.toArray:=by rw[g];simp
   rw[Z,e2]at K;simpa using K
  obtain⟨Y,E⟩:=hb;have m:(sortWorldK ld 2 w b 0 n d' os).heap=(w.heap.modify b (onCells (putCells id 0 (flatK ld 2 d'))))++os:=rfl;have p:(w.heap.modify b (onCells (putCells id 0 (flatK ld 2 d')))).size=w.heap.size:=by simp
  refine⟨⟨rfl,rfl,rfl,by rw[m,Array.size_append,p];omega⟩,[],rfl,?_⟩;rw[m];have A:Ext F w.heap ((w.heap.modify b (onCells (putCells id 0 (flatK ld 2 d'))))++os):=by
   refine⟨by rw[Array.size_append,p];omega,λq hq U=>?_⟩;rw[DE (by rw[p];exact hq),yh,zA λ(e:b=q)=>U (by rw[←e];exact hF)]
  refine hR (d'.toList.map uE) _ ?_ ?_ A ⟨?_,.inr ⟨b,(putCells id 0 (flatK ld 2 d') cs.toArray).toList,hF,ha,⟨Y,?_⟩,hle,?_,?_⟩⟩
  ·rw[←u];exact r.map _
  ·rw[qL];rw[kP];intro i j hi hj hij;have D:=M i j O hij (by simp only[vU]at hj;simp only[ya];omega);rw[getElem!_pos d' i (by simpa using hi),getElem!_pos d' j (by simpa using hj)]at D;have D:=sg D;unfold pE at D;simp only[uE,Array.getElem_toList];omega
  ·rw[KF,za,vU,g];omega
  ·rw[DE (by rw[p];exact z),yh,zB rfl,E];simp[onCells]
  ·simp[putCells,hcl]
  ·rw[KF,za,vU,g];apply zy;intro j;rw[zY];by_cases hj:j<l.length*2
   ·rw[zB hj,IB d'.toList j (by simpa[g]using hj)];have J:j<cs.length:=by
     have:l.length*2<=s.cap*2:=lB _ O;omega
    simp only[putCells,yX,Array.getElem?_mapIdx,List.getElem?_toArray,cM J,zf];rw[zB ⟨O,by rw[size_flatK,g];omega⟩];simp
   ·rw[zA hj,zZ (by rw[KF,za,vU,g];omega)]
end Go.Ar
namespace Go.Proofs
open Go.Vc
set_option maxRecDepth 100000
def XE.h:Hn:=.q .o1 (.q .o4 .l)
def XE.v (a:Hp)(b:Option Addr->Hp->Prop):Prop:=Wu.c 8 64 1 1 1024 2 a λc d=>b c d
theorem XE.o {a b}(c:XE.v a b):XE.c a b:=Wa Tryz.func29 (x:=XE.h) (R0 c)
def Ya.h:Hn:=.q .o1 (.q .o5 .l)
def Ya.v (a:Sl)(b:Int)(c:Hp)(d:aO):Prop:=d (decide (((a.len:Nat):Int)>b)) c
theorem Ya.o {a b c d}(e:Ya.v a b c d):Ya.c a b c d:=Wa Tryz.func34 (x:=Ya.h) (R0 e)
def Wu.h:Hn:=.q .o2 (.q .o8 (.q .o9 (.q (.q .o2 .aK) .aL)))
def Wu.v (a b c d e f:Int)(g:Hp)(h:Option Addr->Hp->Prop):Prop:=aV #[.I a,.I b,.I c,.I d,.I e,.I f] 65 g λi j=>aQ i 0 j λk=>WX.c k j λl m n=>bM ((i.add 1).add 0) n λo=>bM ((i.add 1).add 1) n λp=>bM ((i.add 1).add 2) n λq=>bM ((i.add 1).add 3) n λr=>bM ((i.add 1).add 4) n λs=>Kw.c l o p q r s n λt u v=>If (u != 0) (h none v) (h t v)
theorem Wu.o {a b c d e f g h}(i:Wu.v a b c d e f g h):Wu.c a b c d e f g h:=Wa Tryz.func63 (x:=Wu.h) (R0 i)
def WO.h:Hn:=.q .o2 (.q .o5 .l)
def WO.v (a b c d e f:Int)(g:Hp)(h:aO):Prop:=aV #[.I a,.I b,.I c,.I d,.I e,.I f] 65 g λi j=>bM ((i.add 1).add 0) j λk=>h (decide (k>128)) j
theorem WO.o {a b c d e f g h}(i:WO.v a b c d e f g h):WO.c a b c d e f g h:=Wa Tryz.func64 (x:=WO.h) (R0 i)
def Yh.h:Hn:=.q .o2 (.q (.q (.cV (.seq [.op,.op,.op,.op,.dD false 3 (RI.ops 3)])) (.c (.q .o3 .l) .l)) (.q (.oq 12) .l))
def Yh.v (a:Sl)(b c d e f g h:Int)(i:ByteArray)(j:Hp)(k:aN):Prop:=aV #[.I b,.I c,.I d,.I e,.I f,.I g,.I h,.string i] 87 j λl m=>aQ l 4 m λn=>bY (λo p=>If o (aQ l 5 p λq=>k q p) (aQ l 4 p λr=>Nz ((a.len:Nat):Int) <| Ix a.a a.len (r.tmod ((a.len:Nat):Int)) 1 λs=>bM s p λt=>aQ l 5 p λu=>bL (t+u) λv=>k v p)) λw=>If (n<0) (w true m) (w (((a.len:Nat):Int)==0) m)
theorem Yh.o {a b c d e f g h i j k}(l:Yh.v a b c d e f g h i j k):Yh.c a b c d e f g h i j k:=Wa Tryz.func69 (x:=Yh.h) (R0 l)
def Y5.h:Hn:=.q .o4 (.q .o4 (.q (.q .o2 (.k (.q .o2 (.c (.q (.o 13) (.q .o6 .l)) (.q .o2 (.c (.q .o8 .l) (.q .o2 (.c (.q .o7 .l) (.q .o2 (.c (.q .o8 .l) (.q .o2 (.c (.q .o8 (.q .o5 .l)) (.q .o2 (.c (.q (.o 12) .l) (.q .o2 (.c (.q .o9 .l) (.q .o2 (.c (.q (.o 12) (.q (.q (.cV (.seq [.op,.op,.op,.dD false 2 [.op,.op]])) (.c (.q .o4 .l) .l)) (.q (.oq 10) .l))) (.q .o2 (.c (.q .o9 (.q .o5 .l)) (.q .o2 (.c (.q .o5 .l) (.q .o2 (.c .o2 .l)))))))))))))))))))))))) (.q .o3 .l)))
def Y5.v (a:R2)(b:Sl)(c d e f g h i:Int)(j:ByteArray)(k:Hp)(l:Int->Int->Int->Hp->Prop):Prop:=aV #[.I c,.I d,.I e,.I f,.I g,.I h,.I i,.string j] 87 k λm n=>aQ m 0 n λo=>aQ m 1 n λp=>aQ m 2 n λq=>aQ m 3 n λr=>aQ m 4 n λs=>aQ m 5 n λt=>aQ m 6 n λu=>bC m 7 n λv=>Yh.c b o p q r s t u v n λw x=>aQ m 0 x λy=>If (y==0) (aQ m 1 x λz=>aQ m 2 x λaa=>aQ m 3 x λab=>Yk.c a z aa ab x λac ad ae=>l ac ad ac ae) (If (y==1) (aQ m 1 x λaf=>Zi.c a af w x λag ah=>l 0 ag 0 ah) (If (y==2) (aQ m 1 x λai=>Zj.c a ai x λaj ak=>l 0 aj 0 ak) (If (y==3) (aQ m 6 x λal=>Zq.c a w al x λam an=>l 0 am 0 an) (If (y==4) (υ.c a w x λao ap aq=>l ao ap 0 aq) (If (y==5) (aQ m 1 x λar=>aQ m 2 x λau=>aQ m 3 x λav=>Yo.c a ar 0 au av 0 x λaw ax=>l 0 aw 0 ax) (If (y==6) (aQ m 1 x λay=>Yo.c a ay 1 0 0 w x λaz a0=>l 0 az 0 a0) (If (y==7) (aQ m 1 x λa1=>YZ.c a a1 x λa2 a3 a4 a5 a6=>aV #[.I 0,.I 0] 156 a6 λa7 a8=>aR a7 0 (.I a3) a8 λa9=>aR a7 1 (.I a4) a9 λba=>bY (λbb bc=>If bb (l 0 a5 0 bc) (aQ a7 0 bc λbd=>aQ a7 1 bc λbe=>bL (100+be) λbf=>aQ a7 0 bc λbg=>l bd bf bg bc)) λbh=>If (a5 != 0) (bh true ba) (bh (!a2) ba)) (If (y==8) (aQ m 2 x λbi=>
 YG.c a bi x λbj bk bl=>l bj bk 0 bl) (If (y==9) (ZB.c a x λbm bn=>l bm 0 0 bn) (If (y==10) (ZD.c a x λbo=>l 0 0 0 bo) (l 0 0 0 x)))))))))))
theorem Y5.o {a b c d e f g h i j k l}(m:Y5.v a b c d e f g h i j k l):Y5.c a b c d e f g h i j k l:=Wa Tryz.func70 (x:=Y5.h) (R0 m)
end Go.Proofs
namespace Go.Ar
open Go Go.Vc Go.Proofs
variable {σ w w':Hp}{F P Q:Rg}{L:dR}{H H':Hw}{held:List Pc}{s0:Sp}{t n:Nat}{g:Th}
structure fR where
 kd:Int
 th:Int
 a:Int
 b:Int
 of:Int
 pl:Int
 va:Int
 s:ByteArray
def qw (d:fR):List Value:=[.int .i64 d.kd,.int .i64 d.th,.int .i64 d.a,.int .i64 d.b,.int .i64 d.of,.int .i64 d.pl,.int .i64 d.va,.string d.s]
def lY (x:Int):Prop:=-9223372036854775808<=x/\x<=9223372036854775807
structure lx (d:fR):Prop where
 a:lY d.a
 b:lY d.b
 pl:lY d.pl
 va:lY d.va
structure j0 (σ:Hp) (sl:Sl) (ds:List fR):Prop where
 len:sl.len=ds.length
 at_:∀(i:Nat) (d:fR),ds[i]?=some d->∃b o,sl.a=some ⟨b,o,none⟩/\b<σ.size/\∀(j:Nat) v,(qw d)[j]?=some v->cell σ ⟨b,o+i*8+j,none⟩=some v
 i:∀d∈ds,lx d
 xS:ds.length<=9223372036854775807
theorem j0.bK {sl:Sl}{ds:List fR}(h:j0 σ sl ds)(e:bO σ w):j0 w sl ds:=⟨h.len,λi d a=>by
 obtain⟨b,o,r,p,g⟩:=h.at_ i d a;exact⟨b,o,r,by have:=e.1;omega,λj v m=>by rw[QI e p id];exact g j v m⟩,h.i,h.xS⟩
theorem j0.rd {sl:Sl}{ds:List fR}(h:j0 σ sl ds)(e:bO σ w){i:Nat}{d:fR}(hx:ds[i]?=some d){K:Addr->Prop}(hK:∀b o,(∀w',bO σ w'->∀(j:Nat) v,(qw d)[j]?=some v->cell w' ⟨b,o+j,none⟩=some v)->K ⟨b,o,none⟩):Ix sl.a sl.len (i:Int) 8 K:=by
 obtain⟨b,o,u,s,m⟩:=h.at_ i d hx;have x:=(cQ.1 hx).1;have g:=h.len;rw[u];refine ix O O ?_;rw[add_lit,dC];exact hK b _ λw' r j v p=>by rw[QI r s id];exact m j v p
theorem Cb {b o i:Nat}{h:Hp}{x:ByteArray}{K:ByteArray->Prop}(hc:cell h ⟨b,o+i,none⟩=some (.string x))(hK:K x):wN (Addr.add ⟨b,o,none⟩ i) h K:=⟨x,by rw[add_lit];exact hc,hK⟩
theorem _root_.Go.Vc.bX.rT {b o i:Nat}{cs:List Value}(hb:bX σ b cs){x:ByteArray}{K:ByteArray->Prop}(hc:cs[o+i]?=some (.string x))(hK:K x):wN (Addr.add ⟨b,o,none⟩ i) σ K:=⟨x,by rw[add_lit,hb.cell];exact hc,hK⟩
def sM (ad:List Int)(d:fR):Int:=if d.of<0\/ad=[]then d.pl else IntKind.i64.wrap (ad.getD (d.of.toNat%ad.length) 0+d.pl)
theorem Jz {ad:List Int}{d:fR}(h:lx d):lY (sM ad d):=by
 unfold sM;split
 ·exact h.pl
 ·exact Ty _
theorem I6 {addrs:Sl}{ad:List Int}(hs:cR addrs 1 (Wv ad) σ F)(d:fR){R:aN}(hR:∀σ',bO σ σ'->R (sM ad d) σ'):Yh.c addrs d.kd d.th d.a d.b d.of d.pl d.va d.s σ R:=by
 refine Yh.o ?_;unfold Yh.v;have x:addrs.len=ad.length:=by have:=hs.1;simp[Wv]at this;omega
 refine nw (cs:=qw d) λv D e j=>j.rI rfl (Ha (λr w=>w=v/\r=decide (d.of<0\/ad=[])) (λr w ⟨B,A⟩=>?_) λJ y=>cI (λp=>y _ _ ⟨rfl,by rw[zV (.inl p)]⟩) λp=>y _ _ ⟨rfl,?_⟩)
 ·subst B;have g:=hR w e;by_cases hc:d.of<0\/ad=[]
  ·refine cK (by rw[A];exact zV hc) (j.rI rfl ?_);unfold sM at g;rw[zB hc]at g;exact g
  ·have i:0<ad.length:=qz.2 λh=>hc (.inr h);refine cG (by rw[A];exact zh hc) (j.rI rfl (nz O ?_));have z:0<=d.of:=by omega
   have C:d.of.tmod (addrs.len:Int)=((d.of.toNat%ad.length:Nat):Int):=by
    rw[Q8 z,x,Int.natCast_emod,Int.toNat_of_nonneg z]
   rw[C];have m:d.of.toNat%ad.length<ad.length:=uc _ i;have u:ad[d.of.toNat%ad.length]?=some ad[d.of.toNat%ad.length]:=cM m;refine(cR.loc _ _ _ |>.bK (aH.cut hs) e).pa u (j.rI rfl (yu ?_));unfold sM at g;rw[zA hc,zL,u]at g;exact g
 ·rw[x];rw[nG];simp only[zX,zS];constructor
  ·intro h;exact .inr (xW.1 O)
  ·rintro(h|h)
   ·exact(p h).elim
   ·rw[h];rfl
theorem Mx {l:Sl}{most:Int}{R:aO}(hR:R (decide ((l.len:Int)>most)) σ):Ya.c l most σ R:=by
 refine Ya.o ?_;unfold Ya.v;exact hR
theorem RT {xs:List (Int×Int×Int)}(h:Qd xs=true):(xs.map ZV).map gV=xs:=by
 rw[zt]
 conv=>rhs;rw[←wa xs]
 apply kD;intro t ht;obtain⟨i,d⟩:=zN ht;have:=((Qr xs).1 h).2.2.1 i t d;obtain⟨c,_,b,g,a,e⟩:=yZ this;simp only[Function.comp,id];rw[show ZV t=c from b];unfold gV;rw[←g,←a,←e]
theorem Wo4 {xs:List (Int×Int×Int)}(h:Qd xs=true):(xs.map ZV).length<=40/\∀c∈xs.map ZV,c.ok:=by
 refine⟨by have:=((Qr xs).1 h).2.1;simpa using this,λc b=>?_⟩;obtain⟨t,d,rfl⟩:=zC.1 b;obtain⟨i,g⟩:=zN d;have:=((Qr xs).1 h).2.2.1 i t g;obtain⟨c,a,e,_⟩:=yZ this;rw[show ZV t=c from e];exact a
structure tT (H:Hw) (aF:Int):Prop where
 hi:HI H [] (Vq H.cf.aF)
 cf:my H
 pg:(H.cf.aF:Int)=aF
 live:H.live=[]
 ph:∀g∈H.bQ,g.ph=none
theorem Jh {xs:List (Int×Int×Int)}{p a t b r:Int}(h:Qd xs=true)(hc:sx p a t b r=true):tT (Ug (xs.map ZV) ⟨p.toNat,a.toNat,t.toNat,b.toNat,r.toNat⟩) p:=by
 obtain⟨⟨y,j,s⟩,⟨m,w⟩,⟨u,x⟩,_⟩:=(Jg p a t b r).1 hc;obtain⟨d,e⟩:=Wo4 h;refine⟨Woh (cf:=⟨p.toNat,a.toNat,t.toNat,b.toNat,r.toNat⟩) aC aC aC aC d e,⟨by simp only[Ug];omega,by simp[Ug],?_⟩,by simp only[Ug];omega,rfl,λg i=>by rw[Cu i]⟩;show Qd ((xs.map ZV).map gV)=true;rw[RT h];exact h
theorem NN (g:Gl σ)(gd:Gd σ)(b b1 b2 b3 b4 b5:Int){R:Option Addr->Hp->Prop}(h0:∀σ',bO σ σ'->R none σ')
 (h1:∀σ' L N H,bO σ σ'->σ.size<=N->N<=σ'.size->HH σ' (λb=>N<=b) L H->tT H b1->R (some ⟨L.p,0,none⟩) σ'):Wu.c b b1 b2 b3 b4 b5 σ R:=by
 refine Wu.o ?_;unfold Wu.v;refine nw (cs:=[.int .i64 b,.int .i64 b1,.int .i64 b2,.int .i64 b3,.int .i64 b4,.int .i64 b5]) λv G e j=>j.rI rfl ?_;by_cases hw:2<=b/\b<=16
 ·refine FC b hw.1 hw.2 λs D C A=>?_;have a:=C.bZ j id;have d:=e.trans C;have m:Qd (qI b)=true:=by
   have:=Gj b.toNat O O;rw[show((b.toNat:Nat):Int)=b by omega]at this;exact this
  refine a.gF rfl (a.gF rfl (a.gF rfl (a.gF rfl (a.gF rfl ?_))));refine Dv A (g.bK d) (gd.bK d) b1 b2 b3 b4 b5 (λw=>by rw[m]at w;cases w) (λ_ B u r=>?_) λ_ B u L r E=>?_
  ·exact cK rfl (h0 u (d.trans r))
  ·exact cG rfl (h1 u L D.size _ (d.trans r) d.1 r.1 E (Jh m B))
 ·refine Wlz b O (j.gF rfl (j.gF rfl (j.gF rfl (j.gF rfl (j.gF rfl ?_)))));have A:gB v ⟨none,0,0⟩ []:=⟨rfl,λi x y z F=>by simp at F⟩;refine Dv A (g.bK e) (gd.bK e) b1 b2 b3 b4 b5 (λ_ u r=>cK rfl (h0 u (e.trans r))) (λm=>?_) λm=>?_
  ·exact absurd m aB
  ·exact absurd m aB
def Safe (H:Hw)(d:fR)(x:Int)(e:Int×Bk):Prop:=(∀j,gW H j≠some (.find e.1))/\¬((d.kd=3\/d.kd=1\/d.kd=6)/\e.1<=x/\x<e.1+e.2.2.1)
structure sQ (H:Hw) (d:fR) (x:Int) (H':Hw):Prop where
 hi:∃held s0,HI H' held s0
 kp:Qb H' H
 fx:∀e∈H.live,Safe H d x e->e∈H'.live/\(∀w:Nat,e.1<=((8*w:Nat):Int)->((8*w:Nat):Int)<e.1+e.2.2.1->H'.sp.wd w=H.sp.wd w)/\∀j,gW H' j≠some (.find e.1)
theorem sQ.op (h:HI H held s0){d:fR}{x:Int}(o:iF H H')(hl:∀e∈H.live,Safe H d x e->e∈H'.live):sQ H d x H':=
 ⟨o.hi,o.kp,λe a b=>⟨hl e a b,h.kl o.ks e a,λj=>by rw[o.ph];exact b.1 j⟩⟩
theorem sQ.ar {d:fR}{x:Int}(o:iG H H'):sQ H d x H':=
 ⟨o.hi,o.kp,λe a b=>⟨by rw[o.live];exact a,o.kl e a,λj=>by unfold gW;rw[o.bQ];exact b.1 j⟩⟩
theorem HI.jD (h:HI H held s0){e:Int×Bk}(he:e∈H.live):8<=e.2.2.1/\0<=e.1/\e.1%8=0/\e.2.2.1%8=0/\e.1+e.2.2.1<=270000:=by
 obtain⟨_,p,d,J,D,G,C,_⟩:=h.lv e he;have K:=h.yr.size_pos d;have E:=h.yr.kb d;obtain⟨A,x,hd⟩:=h.yr.hf p d;have F:p.addr%8=0:=by
  rcases hd with⟨_,_,r,hr,c2,c3⟩|⟨j,c,c1,c2,c3,c4,_⟩
  ·omega
  ·obtain⟨a,y,b,u⟩:=c4;have:a=c:=Option.some.inj (b.1.symm.trans c2);subst this;have m:=(h.yr.ga _ A x).cC j a y b;obtain⟨l,s,i,B,z,e,_⟩:=(Uc m).1 u;have g:=m.ok;unfold bW.ok at g;unfold at_ at e;have w:a.size=8*(a.size/8):=by omega
   have:i*a.size=8*(i*(a.size/8)):=by rw[Nat.mul_left_comm,←w]
   omega
 omega
theorem sQ.free (h:HI H held s0){d:fR}{x thread e:Int}(hd:d.kd=1)(o:iF H H')(hf:uz H thread x H' e):sQ H d x H':=by
 refine sQ.op h o λm a g=>?_;have j:=h.jD a;rcases hf with⟨_,h2,_⟩|⟨_,_,_,h4⟩|⟨_,b,_,_,h4⟩
 ·rw[h2];exact a
 ·rw[h4];exact a
 ·rw[h4];refine A4.2 ⟨a,λi=>g.2 ⟨.inr (.inl hd),O,O⟩⟩
end Go.Ar
namespace Go.Ar
open Go Go.Vc Go.Proofs
variable {σ w w':Hp}{F P Q X:Rg}{L:dR}{H H':Hw}{held:List Pc}{s0:Sp}{t n:Nat}{g:Th}
structure jL (σ0 σ:Hp) (L:dR) (H:Hw) (held:List Pc) (s0:Sp) (P Q:Rg) (addrs:Sl) (ad:List Int):Prop where
 e:bO σ0 σ
 h:HH σ P L H
 hi:HI H held s0
 cf:my H
 pg:H.cf.aF<=128
 pP:∀b,P b->σ0.size<=b/\b<σ.size
 pQ:∀b,Q b->σ0.size<=b/\b<σ.size/\¬P b
 row:bR addrs 1 (Wv ad) σ Q
 al:ad.length<=60
 g0:iY (λb=>σ0.size<=b)/\¬σ0.size<=1
variable {σ0:Hp}{addrs:Sl}{ad:List Int}
theorem jL.out (p:jL σ0 σ L H held s0 P Q addrs ad){T:Rg}(e:Ext T σ w)(hT:∀b,b<σ.size->T b->¬P b/\¬Q b/\σ0.size<=b):jL σ0 w L H held s0 P Q addrs ad:=by
 have r:=e.1;have g:Ext (λb=>T b/\b<σ.size) σ w:=⟨e.1,λb a m=>e.2 b a λd=>m ⟨d,a⟩⟩;refine⟨Ext.fC p.e g λb a=>.inr (hT b a.2 a.1).2.2,p.h.bU g (λb a i d=>(hT b a d.1).1 i) (λb a=>?_) (λa=>?_),p.hi,p.cf,p.pg,λb a=>⟨(p.pP b a).1,by have:=(p.pP b a).2;omega⟩,λb a=>⟨(p.pQ b a).1,by have:=(p.pQ b a).2.1;omega,(p.pQ b a).2.2⟩,aI.bU p.row g λb a j d=>(hT b a d.1).2.1 j,p.al,p.g0⟩
 ·exact p.g0.1 b (hT b a.2 a.1).2.2
 ·exact p.g0.2 (hT _ a.2 a.1).2.2
theorem MG (hr:bR addrs 1 (Wv ad) σ Q)(hl:ad.length<=1000000)(x:Int){e t:Nat}{K:Sl->Hp->Prop}(hK:∀s' w,Ext Q σ w->bR s' 1 (Wv (ad++[x])) w (λb=>Q b\/σ.size<=b/\b<w.size)->K s' w) :
 Nw (.cells #[.int .i64 x] t (0,0)) σ λn v=>App addrs 1 8 e [.int .i64 0] ⟨some n,1,1⟩ v K:=by
 have j:addrs.len=ad.length:=by have:=hr.1;simp[Wv]at this;omega
 refine bR.push (F:=λb=>Q b\/σ.size<=b) (vs:=[.int .i64 x]) (aI.mono hr λb _ a=>.inl a) (λb a=>.inr a) rfl rfl (by simp[dN]) O O λs' w p g m=>hK s' w ⟨g.1,λb a i=>g.2 b a λd=>d.elim i λd=>O⟩ ?_;have:Wv (ad++[x])=Wv ad++[.int .i64 x]:=by simp[Wv]
 rw[this];refine aI.mono (aI.cut m) λb a d=>?_;rcases d.1 with h1|h1
 ·exact .inl h1
 ·exact .inr ⟨h1,a⟩
end Go.Ar
namespace Go.Proofs
open Go.Shelf
def Tryz.ir:Go.Shelf.Ren:=⟨fun|7=>67|10=>95|n=>n,fun|23=>44|26=>3|3=>76|28=>117|0=>0|27=>116|33=>152|4=>4|n=>n,fun|n=>n⟩
theorem Tryz.l7:Go.Proofs.SlLaysZI.n7 Tryz.prog Tryz.ir:={
 mixed:=by kernel_rfl
 f7:=⟨Tryz.f67.name,by decide,Tryz.func67.trans (congrArg some (by kernel_rfl))⟩
 f10:=⟨Tryz.f95.name,by decide,Tryz.func95.trans (congrArg some (by kernel_rfl))⟩
 t0:=Tryz.underlying0
 a0:=Tryz.isAgg0
 z0:=Tryz.sizeOf0
 v0:=Tryz.zeroValue0
 t4:=Tryz.underlying4
 a4:=Tryz.isAgg4
 z4:=Tryz.sizeOf4
 v4:=Tryz.zeroValue4
 t23:=Tryz.underlying44
 a23:=Tryz.isAgg44
 z23:=Tryz.sizeOf44
 v23:=Tryz.zeroValue44
 t26:=Tryz.underlying3
 a26:=Tryz.isAgg3
 z26:=Tryz.sizeOf3
 v26:=Tryz.zeroValue3
 t27:=Tryz.underlying116
 a27:=Tryz.isAgg116
 z27:=Tryz.sizeOf116
 v27:=Tryz.zeroValue116
 t28:=Tryz.underlying117
 a28:=Tryz.isAgg117
 z28:=Tryz.sizeOf117
 v28:=Tryz.zeroValue117
 t33:=Tryz.underlying152
 a33:=Tryz.isAgg152
 z33:=Tryz.sizeOf152
 v33:=Tryz.zeroValue152}
end Go.Proofs
namespace Go.Ar
open Go Go.Vc Go.Proofs Go.RowKit Go.Maps Go.Sort Go.Shelf
open Go.Vc (bV dF cT)
open Go.Bu (nP C1 Gm Dq U8 El)
variable {σ w w':Hp}{F P Q X S:Rg}{L:dR}{H H':Hw}{held:List Pc}{s0 sp:Sp}{t n:Nat}{g:Th}{σ0:Hp}
def HZ:Nat:=Tryz.ir.f 10
def CI:Nat:=Tryz.ir.t 23
theorem Ο (m:Option Nat){R:Fv->Hp->Prop}(hR:R ⟨HZ,#[],#[.pointer (some ⟨σ.size,0,none⟩)]⟩ (σ.push (.cells #[.map m] CI (0,0)))) :
 ZO.c m σ R:=by
 rintro w rfl;refine(callsIn_wide.1 (AnyZI.keys_in Tryz.l7 Fence.wide 5 trivial rfl m w)).mono ?_;rintro e a ⟨rfl,rfl⟩;exact⟨⟨rfl,rfl,rfl,sf (by show _<(w.heap.push _).size;simp)⟩,[.func (.func HZ) #[] #[.pointer (some ⟨w.heap.size,0,none⟩)]],rfl,⟨HZ,#[],#[.pointer (some ⟨w.heap.size,0,none⟩)]⟩,rfl,hR⟩
theorem Oq {w:World}{c m:Nat}{B:List (Int×Bk)}(hc:cell w.heap ⟨c,0,none⟩=some (.map (some m)))(hm:dK w.heap m .i64 (.ag 4) B)(hb:∀x∈B,Go.Bu.lY x.1)(hs:B.length<=1000000)(n:Nat)(hn:1<=n) :
 SeqGives Fence.wide n Tryz.prog HZ #[.pointer (some ⟨c,0,none⟩)] encZ (λss=>ss.Perm (B.map (·.1))) B.length w:=by
 obtain⟨D,d,i,a⟩:=U8 (P:=Tryz.prog) Tryz.l7.t26 hm hb hs;have b:c<w.heap.size:=by
  unfold cell at hc;split at hc
  ·rename_i h;exact(mA.1 h).1
  ·cases hc
 have:=AnyZI.keys_gives (ρ:=Tryz.ir) {Tryz.l7 with} Fence.wide n trivial rfl hn c m B.length D w b hc d;intro l J W hW hJ hY h0;rw[a]at this;refine(this l J W hW hJ hY h0).mono ?_;rintro e W' ⟨g,ss,j,p⟩;exact⟨g,ss,j.trans i,p⟩
theorem Tp {c m:Nat}{B:List (Int×Bk)}(hc:cell σ ⟨c,0,none⟩=some (.map (some m)))(hm:dK σ m .i64 (.ag 4) B)(hb:∀x∈B,Go.Bu.lY x.1)(hs:B.length<=1000000){R:Sl->Hp->Prop}
 (hR:∀(s:Sl) (σ':Hp) (ss:List Int),bO σ σ'->ss.Perm (B.map (·.1))->ss.Pairwise (· <= ·)->nP σ.size σ' s (ss.map (Value.int .i64))->R s σ') :
 VK.c ⟨HZ,#[],#[.pointer (some ⟨c,0,none⟩)]⟩ σ R:=by
 rintro w rfl;have d:=Oq hc hm hb hs 2 O;have j:B.length<=maxLen:=by unfold maxLen;omega
 have z:=AnyZI.sorted_in Tryz.re Fence.wide 5 trivial trivial trivial trivial rfl O (El _) (Tryz.pv.f5.enters rfl) HZ #[.pointer (some ⟨c,0,none⟩)] trivial (Tryz.l7.f10.enters rfl) _ _ j O _ d;refine(callsIn_wide.1 z).mono ?_;rintro e A ⟨v,ss,rfl,u,g,r,i⟩;obtain⟨s,rfl,p⟩:=C1 g;refine⟨Dq i,[.slice s.a s.len s.cap],rfl,s,rfl,?_⟩;refine hR s _ (ss.mergeSort λx y=>decide (x<=y)) (Gm i) ((List.mergeSort_perm _ _).trans u) ?_ p;have:=List.pairwise_mergeSort (le:=λx y:Int=>decide (x<=y)) (λa b c D C=>by simp at *;omega) (λa b=>by simp;omega) ss;exact this.imp (λh=>by simpa using h)
def mX (b:Bk):List Value:=[.int .i64 b.1,.int .i64 b.2.1,.int .i64 b.2.2.1,.int .i64 b.2.2.2]
def jz (bs:List Bk):List Value:=bs.flatMap mX
theorem As (bs:List Bk):(jz bs).length=bs.length*4:=by
 unfold jz
 induction bs with
 | nil=>rfl
 | cons b bs ih=>rw[mO,zK,ih];simp[mX];omega
theorem Db:∀{bs:List Bk} {i:Nat} {b:Bk},bs[i]?=some b->∀{j:Nat} {v:Value},(mX b)[j]?=some v->(jz bs)[4*i+j]?=some v
 | [],i,b,h,_,_,_=>by simp at h
 | a::bs,0,b,h,j,v,hv=>by
  simp only[uP,Option.some.injEq]at h;subst h;have hj:=(cQ.1 hv).1;show(mX a++jz bs)[4*0+j]?=_;rw[show 4*0+j=j by omega,zd hj];exact hv
 | a::bs,i+1,b,h,j,v,hv=>by
  have d:=Db (bs:=bs) (i:=i) (b:=b) (by simpa using h) hv;show(mX a++jz bs)[4*(i+1)+j]?=_;rw[zn (by simp[mX];omega)];have:4*(i+1)+j-(mX a).length=4*i+j:=by simp[mX];omega
  rw[this];exact d
structure jn (live:List (Int×Bk)) (bs:List Bk):Prop where
 len:bs.length=live.length
 mem:∀b,b∈bs↔(b.1,b)∈live
 qc:bs.Pairwise λa b=>a.1<b.1
theorem HI.iN (h:HI H held s0):H.live.length<=1000000:=by
 have p:(H.live.map λe=>e.1.toNat).Nodup:=by
  have s:=kP.1 h.lk;refine kP.2 λi j u g d e=>?_;have b:i<H.live.length:=by simpa using u
  have a:j<H.live.length:=by simpa using g
  refine s i j (by simpa using b) (by simpa using a) d ?_;simp only[sv]at e ⊢;have z:=(h.jD (zc b)).2.1;have y:=(h.jD (zc a)).2.1;omega
 have:=C6 270000 _ p λx m=>by
  obtain⟨e,r,rfl⟩:=zC.1 m;have:=h.jD r;omega
 have w:(H.live.map λe=>e.1.toNat).length=H.live.length:=by simp
 omega
theorem cR.tU {B:Nat}{s:Sl}{xs:List Value}(h:nP B σ s xs):cR s 1 xs σ (λb=>B<=b):=by
 refine⟨by have:=h.1;omega,?_⟩;rcases h.2 with⟨h0,_⟩|⟨b,cs,hb,ha,hk,hc⟩
 ·exact .inl h0
 ·exact .inr ⟨b,0,cs,hb,ha,hk.q,λj a=>by rw[zG];exact hc j a⟩
set_option maxRecDepth 8000 in
theorem JD (h:HH σ F L H)(hi:HI H held s0){R:Sl->Hp->Prop}(hR:∀s σ' bs,bO σ σ'->jn H.live bs->bR s 4 (jz bs) σ' (λb=>σ.size<=b)->R s σ'):Zp.c (aW L.p) σ R:=by
 refine Zp.o ?_;unfold Zp.v;have D:∀x∈H.live,Go.Bu.lY x.1:=λx d=>by have:=hi.jD d;unfold Go.Bu.lY;omega
 have W:=hi.iN;refine KB h (cG rfl (aG (h.hd.rM rfl (Ο _ ?_))));have Z:bO σ (σ.push (.cells #[.map (some L.lm)] CI (0,0))):=Ext.push _ _ _;have J:=h.bK Z;refine Tp (by unfold cell;simp) J.kC D W λs y ss S G A hs=>?_;have Q:=Z.trans S;have C:=cR.tU hs;have V:ss.Nodup:=G.nodup_iff.2 hi.lk;have u:ss.length=H.live.length:=by rw[G.length_eq];simp
 have hsl:s.len=ss.length:=by have:=C.1;simp at this;omega
 have E:∀x∈ss,∃b,bV H.live x=some b/\b.1=x:=λx d=>by
  obtain⟨e,X,rfl⟩:=zC.1 (G.mem_iff.1 d);exact⟨e.2,V9 hi.lk X,(hi.lv e X).1⟩
 let f:Int->Bk:=λx=>(bV H.live x).getD (0,0,0,0)
 have r:∀x∈ss,(f x).1=x/\bV H.live x=some (f x):=λx d=>by
  obtain⟨b,g,N⟩:=E x d;have:f x=b:=by show(bV H.live x).getD _=b;rw[g];rfl
  rw[this];exact⟨N,g⟩
 have hz1:σ.size<y.size:=by
  have J:=S.1;have h2:(σ.push (.cells #[.map (some L.lm)] CI (0,0))).size=σ.size+1:=by simp
  omega
 refine Kf (a:=.s) (bb:=bN) (λ(out:Sl) (z:Int) w=>∃i:Nat,z=i/\i<=ss.length/\bO y w/\bR out 4 (jz ((ss.take i).map f)) w (λb=>y.size<=b)) (λ_ z _=>ss.length-z.toNat) ⟨0,rfl,O,Ext.refl _ _,⟨by simp[jz],.inl ⟨rfl,rfl⟩⟩⟩ ?_;rintro(out:Sl) (z:Int) w ⟨i,rfl,hil,ew,hr⟩;have hw:=J.bK (S.trans ew);refine cI (λB=>?_) λhge=>?_
 ·have d:ss[i]?=some (ss[i]' O):=cM _;have hol:out.len=i:=by have:=hr.1;rw[As]at this;simp at this;omega
  refine(aH.bK (aH.cut C) ew).pa d (aG (hw.hd.rM rfl ⟨H.live,hw.kC,?_⟩));refine hr.push (F:=λb=>y.size<=b) (vs:=mX (f (ss[i]' O))) (λb g=>by have:=ew.1;omega) rfl rfl (by simp[mX,dN]) O O λs' w' hsl' M P=>?_;have e3:bO y w':=Ext.fresh ew M λb g=>g;refine cA (m:=i+1) O O ⟨⟨i+1,rfl,O,e3,?_⟩,O⟩;have:jz ((ss.take (i+1)).map f)=jz ((ss.take i).map f)++mX (f (ss[i]' O)):=by
   unfold jz;rw[zg,d,zu,Av];simp only[tB,zJ,pI,mO,List.flatMap_nil,j9]
  rw[this];exact P
 ·have U:i=ss.length:=by omega
  subst U;rw[zl]at hr;refine hR out w (ss.map f) (Q.trans ew) ⟨by simp[u],λb=>?_,?_⟩ (aI.mono hr λb _ g=>by
   show σ.size<=b;have g:y.size<=b:=g;omega)
  ·constructor
   ·intro g;obtain⟨x,d,rfl⟩:=zC.1 g;obtain⟨q1,q2⟩:=r x d;rw[q1];exact KX q2
   ·intro g;have d:b.1∈ss:=G.mem_iff.2 (zC.2 ⟨_,g,rfl⟩);refine zC.2 ⟨b.1,d,?_⟩;have:=(r _ d).2;rw[V9 hi.lk g]at this;exact(Option.some.inj this).symm
  ·rw[qL];have B:ss.Pairwise (· < ·):=(A.and V).imp λ⟨J,h2⟩=>by
    have:_≠_:=h2;omega
   refine kP.2 λi j hi Y K=>?_;rw[(r _ (zc hi)).1,(r _ (zc Y)).1];exact kP.1 B i j hi Y K
theorem EH {s:Sl}{bs:List Bk}(hs:cR s 4 (jz bs) σ F){i:Nat}{b:Bk}(hb:bs[i]?=some b){K:Addr->Prop}(hK:∀bb o,(∀(j:Nat) v,(mX b)[j]?=some v->cell σ ⟨bb,o+j,none⟩=some v)->K ⟨bb,o,none⟩):Ix s.a s.len (i:Int) 4 K:=by
 have p:=(cQ.1 hb).1;have r:s.len=bs.length:=by have:=hs.1;rw[As]at this;omega
 obtain⟨bb,o,e,u⟩:=hs.cell (Db hb (j:=0) rfl);rw[e];refine ix O O ?_;rw[add_lit,dC];refine hK bb _ λj v m=>?_;obtain⟨x,w,d,g⟩:=hs.cell (Db hb m);rw[e]at d;cases d;rw[←g];congr 2;omega
end Go.Ar
namespace Go.Ar
open Go.Bu (iR)
variable {W:Wd}{k:Nat}{A:AR}
def xZ {α:Type}(f:bW->α->Nat)(tb:List bW)(l:List α)(j:Nat):Nat:=match tb[j]?,l[j]? with
 | some c,some a=>f c a
 | _,_=>0
theorem Oa {α:Type}{f:bW->α->Nat}{tb:List bW}{l:List α}{j:Nat}{c:bW}{a:α}(h1:tb[j]?=some c)(h2:l[j]?=some a):xZ f tb l j=f c a:=by unfold xZ;rw[h1,h2]
theorem EA {α:Type}(f:bW->α->Nat):∀(tb:List bW) (l:List α),l.length=tb.length->((tb.zip l).map λx=>f x.1 x.2).sum=((List.range tb.length).map (xZ f tb l)).sum
 | [],l,h=>by simp
 | c::tb,[],h=>by simp at h
 | c::tb,a::l,h=>by
  have ih:=EA f tb l (by simpa using h);rw[C8,zJ,zm,ih,zP,Ab,zJ,zm,zt];rfl
def rj (c:bW)(ss:List cH):List Nat:=ss.flatMap λs=>(List.range c.aF).map (s.st + ·)
theorem Sy (c:bW)(ss:List cH):(rj c ss).length=ss.length*c.aF:=by
 induction ss with
 | nil=>simp[rj]
 | cons s ss ih=>
  have e:rj c (s::ss)=(List.range c.aF).map (s.st + ·)++rj c ss:=rfl;rw[e,zK,ih];simp[zk];omega
theorem Df {c:bW}{ss:List cH}{p:Nat}:p∈rj c ss↔sJ c ss p:=by
 simp only[rj,rq,zC,zU,sJ];constructor
 ·rintro⟨s,hs,i,hi,rfl⟩;exact⟨s,hs,O,O⟩
 ·rintro⟨s,hs,h1,h2⟩;exact⟨s,hs,p-s.st,O,O⟩
theorem PW {c:bW}{ss:List cH}(h:ss.Pairwise λa b=>a.st+c.aF<=b.st):(rj c ss).Nodup:=by
 induction ss with
 | nil=>exact rl
 | cons s ss ih=>
  have g:=mR.1 h;have e:rj c (s::ss)=(List.range c.aF).map (s.st + ·)++rj c ss:=rfl;rw[e,oD];refine⟨?_,ih g.2,λa r b m e=>?_⟩
  ·exact List.Pairwise.map (R:=(· ≠ ·)) _ (λa b d e=>d O) xB
  ·subst e;obtain⟨i,p,rfl⟩:=zC.1 r;obtain⟨t,j,u,w⟩:=Df.1 m;have:=g.1 t j;have:=zU.1 p;omega
def rY (l:List (Nat×Nat)):List Nat:=l.flatMap λr=>(List.range r.2).map (r.1 + ·)
theorem Pu (l:List (Nat×Nat)):(rY l).length=(l.map (·.2)).sum:=by
 induction l with
 | nil=>rfl
 | cons r l ih=>
  have e:rY (r::l)=(List.range r.2).map (r.1 + ·)++rY l:=rfl;rw[e,zK,ih];simp
theorem AD {l:List (Nat×Nat)}{p:Nat}:p∈rY l↔iQ l p:=by
 simp only[rY,rq,zC,zU,iQ];constructor
 ·rintro⟨s,hs,i,hi,rfl⟩;exact⟨s,hs,O,O⟩
 ·rintro⟨s,hs,h1,h2⟩;exact⟨s,hs,p-s.1,O,O⟩
theorem RL {l:List (Nat×Nat)}(h:l.Pairwise λa b=>a.1+a.2<=b.1\/b.1+b.2<=a.1):(rY l).Nodup:=by
 induction l with
 | nil=>exact rl
 | cons s ss ih=>
  have g:=mR.1 h;have e:rY (s::ss)=(List.range s.2).map (s.1 + ·)++rY ss:=rfl;rw[e,oD];refine⟨?_,ih g.2,λa r b m e=>?_⟩
  ·exact List.Pairwise.map (R:=(· ≠ ·)) _ (λa b d e=>d O) xB
  ·subst e;obtain⟨i,p,rfl⟩:=zC.1 r;obtain⟨t,j,u,w⟩:=AD.1 m;have:=g.1 t j;have:=zU.1 p;omega
theorem Fu {n:Nat}{l:List Nat}(hn:l.Nodup)(hl:∀x∈l,x<n){f:Nat->Bool}(hf:∀p,p<n->(f p=true↔p∈l)):(List.range n).countP f=l.length:=by
 rw[xP];refine List.Perm.length_eq ?_;rw[xp (List.nodup_range.filter _) hn];intro x;rw[zH,zU];exact⟨λ⟨a,b⟩=>(hf x a).1 b,λd=>⟨hl x d,(hf x (hl x d)).2 d⟩⟩
theorem T4 (ga:GA A):Ud A+Uh A+iR A.n A.S=(List.range A.n).countP λ(p:Nat)=>UP A (p:Int):=by
 have key:∀m,m<=A.tb.length->(List.range A.n).countP (λp=>A.ow p != 0&&decide (A.ow p<=m))=((List.range m).map (xZ (λc d=>d.length*c.aF) A.tb A.cC)).sum:=by
  intro m
  induction m with
  | zero=>
   intro _;simp
  | succ m ih=>
   intro hm;rw[zz,zu,qo,←ih O,List.map_singleton,List.sum_singleton];obtain⟨c,d,t,j,_⟩:=ga.cl (k:=m) O;have E:=ga.cC m c d j;rw[Oa j.1 j.2,←Sy c d,←Fu (n:=A.n) (PW E.rZ) (λx b=>by
    obtain⟨s,g,a,e⟩:=Df.1 b;exact ga.pg.lt (by rw[(ga.used j g a e).1];omega)) (f:=λp=>A.ow p==m+1) (λp _=>by rw[Df,←ga.ow m c d j p];simp)]
   symm
   apply Go.Bu.iq;intro p _;by_cases a:A.ow p=m+1
   ·simp[a]
   ·by_cases e:A.ow p<=m
    ·have:(A.ow p==m+1)=false:=by simpa using a
     have y:decide (A.ow p<=m+1)=true:=by simp;omega
     simp[this,e,y]
    ·have:(A.ow p==m+1)=false:=by simpa using a
     have y:¬A.ow p<=m+1:=by omega
     simp[this,e,y]
 have z:=key A.tb.length (zD _);have K:Ud A=(List.range A.n).countP (λp=>A.ow p != 0&&decide (A.ow p<=A.tb.length)):=by
  rw[z];unfold Ud;rw[EA (λc d=>d.length*c.aF) A.tb A.cC ga.lc]
 have L:Uh A=(List.range A.n).countP (λp=>A.ow p==41):=by
  unfold Uh;rw[←Pu,Fu (RL ga.jS) (λx b=>by
   obtain⟨r,J,a,e⟩:=AD.1 b;exact ga.pg.lt (by rw[(ga.jA J a e).1];omega)) (f:=λp=>A.ow p==41) (λp _=>by rw[AD,←ga.ji];simp)]
 have G:=ga.tb;have D:(List.range A.n).countP (λp=>A.ow p != 0&&decide (A.ow p<=A.tb.length))+(List.range A.n).countP (λp=>A.ow p==41)=(List.range A.n).countP (λp=>A.ow p != 0):=by
  apply Go.Bu.iq;intro p _;rcases ga.py p with a|a
  ·have:¬A.ow p<=A.tb.length:=by omega
   simp[a];omega
  ·have:(A.ow p==41)=false:=by simp;omega
   simp[this,a]
 have C:(List.range A.n).countP (λp=>A.ow p != 0)+(List.range A.n).countP A.S=(List.range A.n).countP λ(p:Nat)=>UP A (p:Int):=by
  apply Go.Bu.iq;intro p _;have w:=ga.pg.us p;have g:=ga.pg.fr p;have F:UP A (p:Int)=decide (A.f p≠0):=by
   unfold UP AR.f gf;rw[zV (show(0:Int)<=p by omega),vL,dC]
  rw[F];have H:=ga.pg.le p;by_cases h0:A.f p=0
  ·have:A.ow p=0:=Classical.byContradiction λu=>by have:=w.2 u;omega
   have i:A.S p=false:=by apply mS.2;intro b;have:=g.1 b;omega
   simp[h0,this,i]
  ·by_cases a:A.f p=1
   ·have B:=w.1 a;have i:A.S p=false:=by apply mS.2;intro b;have:=g.1 b;omega
    simp[a,B,i]
   ·have:A.ow p=0:=Classical.byContradiction λu=>a (w.2 u);have i:A.S p=true:=g.2 O;simp[h0,this,i]
 unfold iR;rw[K,L,D,C]
theorem Ct (ga:GA A):Uh A<=1024:=by
 have a:=T4 ga;have b:(List.range A.n).countP (λ(p:Nat)=>UP A (p:Int))<=A.n:=by
  refine zI vj ?_;rw[oQ];exact zD _
 have:=ga.pg.n2;omega
end Go.Ar
namespace Go.Ar
open Go Go.Vc Go.Proofs
open Go.Vc (bV dF cT)
open Go.Bu (iR)
variable {σ v w w':Hp}{F P Q X:Rg}{L:dR}{H H':Hw}{held:List Pc}{s0:Sp}{t n:Nat}{g:Th}{nb sb m:Nat}{x:List Int}
def mf (b:Bk):Int:=if 0<=b.2.2.1 then b.2.1 else 0
def Hg (l:List (Int×Bk)):Int:=(l.map λe=>mf e.2).sum
def V0 (H:Hw):Nat:=(H.bQ.map λg=>Qt H.tb g.ls).sum
def Ve (f:AR->Nat)(H:Hw):Nat:=(H.bT.map f).sum
def VB (A:AR):Nat:=iR A.n A.S
theorem Fe {α:Type}(f:α->Int):∀{l:List (Int×α)} {n:Int} {x:α},(l.map (·.1)).Nodup->(n,x)∈l->(l.map λe=>f e.2).sum=f x+((l.filter λy=>!(y.1==n)).map λe=>f e.2).sum
 | [],_,_,_,h=>by simp at h
 | y::l,n,x,hn,h=>by
  simp only[zJ,zp]at hn;rcases zQ.1 h with h1|h1
  ·subst h1;have:l.filter (λy=>!(y.1==n))=l:=by
    rw[oz];intro z hz;have:z.1≠n:=λe=>hn.1 (zC.2 ⟨z,hz,e⟩);simpa using this
   rw[uB aA,this];simp
  ·have a:y.1≠n:=λe=>hn.1 (zC.2 ⟨_,h1,e.symm⟩);rw[tF (by simpa using a)];simp only[zJ,zm];rw[Fe f hn.2 h1];omega
theorem Vl {α:Type}{f:α->Int}{c:Int}:∀{l:List α},(∀e∈l,0<=f e/\f e<=c)->0<=(l.map f).sum/\(l.map f).sum<=l.length*c
 | [],_=>by simp
 | a::l,h=>by
  have h1:=h a kX;have d:=Vl λe b=>h e (kL _ b);simp only[zJ,zm,zP,Int.natCast_add,Int.add_mul];omega
theorem Bb (hi:HI H held s0){e:Int×Bk}(he:e∈H.live):0<=mf e.2/\mf e.2<=270000:=by
 have:=hi.jD he;unfold mf;split<;>omega
theorem Jx {α:Type}(f:α->Nat){l:List α}{i:Nat}{a:α}(h:l[i]?=some a):((l.take (i+1)).map f).sum=((l.take i).map f).sum+f a:=by
 rw[zg,h];simp
theorem LQ {α:Type}{f:α->Nat}{c:Nat}{l:List α}(h:∀a∈l,f a<=c):(l.map f).sum<=l.length*c:=by
 induction l with
 | nil=>simp
 | cons a l ih=>
  have d:=h a kX;have g:=ih λe b=>h e (kL _ b);simp only[zJ,zm,zP,zk];omega
theorem Of {α:Type}{f:α->Nat}{c:Nat}{l:List α}(h:∀a∈l,f a<=c)(i:Nat):((l.take i).map f).sum<=i*c:=
 zI (LQ λa b=>h a (mc b)) (lB c (by rw[zO];omega))
def V5:List Value:=[.int .i64 0,.int .i64 0,.int .i64 0,.int .i64 0,.int .i64 0,.int .i64 0,.int .i64 0,.int .i64 0,.int .i64 0,.int .i64 0,.int .i64 0]
structure l9 (σ:Hp) (nb sb:Nat) (v:Hp) (x:List Int):Prop where
 e:bO σ v
 n:bX v nb V5
 s:bX v sb (x.map (Value.int .i64))
 h1:σ.size<=nb
 h2:σ.size<=sb
 h3:nb≠sb
 hl:x.length=11
theorem l9.fr (h:l9 σ nb sb v x)(e:bO v w):l9 σ nb sb w x:=⟨h.e.trans e,e.bZ h.n id,e.bZ h.s id,h.h1,h.h2,h.h3,h.hl⟩
theorem l9.own (h:l9 σ nb sb v x)(o:QD v w m)(h4:v.size<=m\/m≠nb/\m≠sb/\σ.size<=m):l9 σ nb sb w x:=by
 have b:=h.n.lt;have j:=h.s.lt;have d:=h.e.1;exact⟨Ext.fresh h.e o.ext λi (g:i=m)=>O,o.ext.bZ h.n λ(a:nb=m)=>O,o.ext.bZ h.s λ(a:sb=m)=>O,h.h1,h.h2,h.h3,h.hl⟩
theorem l9.rd (h:l9 σ nb sb v x){i:Nat}{y:Int}(hy:x[i]?=some y){K:Int->Prop}(hK:K y):fF .i64 (Addr.add ⟨sb,0,none⟩ i) v K:=
 h.s.rI (by rw[zG,ze,hy];rfl) hK
theorem l9.st (h:l9 σ nb sb v x){i:Nat}{y:Int}(hi:i<11){K:aP}(hK:∀w,Ext (· = sb) v w->l9 σ nb sb w (x.set i y)->K w):dL (Addr.add ⟨sb,0,none⟩ i) (.int .i64 y) v K:=by
 have hl:=h.hl;refine h.s.s1 (by rw[za];omega) λw o b=>hK w o.ext ⟨Ext.fresh h.e o.ext λi (hi:i=sb)=>by have:=h.h2;omega,o.ext.bZ h.n λ(a:nb=sb)=>h.h3 a,?_,h.h1,h.h2,h.h3,by rw[oR,hl]⟩;rw[zG,←sZ]at b;exact b
theorem Ns {K:eV [.ad]}{body:eV [.ad]->Prop}(P:Addr->Hp->Prop)(h1:∀r w,P r w->K r w)(h2:∀J:eV [.ad],(∀r w,P r w->J r w)->body J):Jn [.ad] K body:=Jn.intro (h2 K h1)
theorem il.qE {s:Sl}(h:il s [] σ F):s.len=0:=by have:=h.len;simpa using this
theorem HH.RV (h:HH σ F L H){x:eC}(hx:L.ts[t]?=some x)(hg:H.bQ[t]?=some g):il x.h g.bP σ F:=by
 obtain⟨G,d,a⟩:=h.sep.get (.hn t);simp only[CH,hx,hg,pK]at a;exact dQ.mono (il.loc _ _) a λb _ a=>d b a
theorem HH.Si (h:HH σ F L H){x:eC}(hx:L.ts[t]?=some x)(hg:H.bQ[t]?=some g):eH σ F x.c H.tb H.cf.dA g.ls:=by
 obtain⟨G,d,a⟩:=h.sep.get (.ca t);simp only[CH,hx,hg,qt]at a;exact dQ.mono eH.loc a λb _ a=>d b a
theorem Bf {A:AR}(ga:GA A):VB A<=1024:=by
 have a:VB A<=A.n:=by
  unfold VB iR;refine zI vj ?_;rw[oQ];exact zD _
 have:=ga.pg.n2;omega
theorem l9.rdH (h:l9 σ nb sb v x){i:Nat}{y:Int}(hy:x[i]?=some y){K:Int->Prop}(hK:K y):gQ (λm=>bO v m) bN (Addr.add ⟨sb,0,none⟩ i) K:=
 ⟨y,λm a=>by rw[add_lit,(Ext.bZ a h.s id).cell,zG,ze,hy];rfl,hK⟩
theorem bX.rH {b i:Nat}{cs:List Value}{c:CK}{y:c.T}(hb:bX v b cs)(hc:cs[i]?=some (c.v y)){K:c.T->Prop}(hK:K y):gQ (λm=>bO v m) c (Addr.add ⟨b,0,none⟩ i) K:=
 ⟨y,λm a=>by rw[add_lit,(Ext.bZ a hb id).cell,zG];exact hc,hK⟩
theorem tI {b:Nat}(hb:bX v b V5)(a0 a1 a2 a3 a4 a5 a6 a7 a8 a9 a10:Int){K:aP}(hK:∀w,Ext (· = b) v w->bX w b ([a0,a1,a2,a3,a4,a5,a6,a7,a8,a9,a10].map (Value.int .i64))->K w) :
 dL (Addr.add ⟨b,0,none⟩ 0) (.int .i64 a0) v λv57=>dL (Addr.add ⟨b,0,none⟩ 1) (.int .i64 a1) v57 λv58=>dL (Addr.add ⟨b,0,none⟩ 2) (.int .i64 a2) v58 λv59=>dL (Addr.add ⟨b,0,none⟩ 3) (.int .i64 a3) v59 λv60=>
 dL (Addr.add ⟨b,0,none⟩ 4) (.int .i64 a4) v60 λv61=>dL (Addr.add ⟨b,0,none⟩ 5) (.int .i64 a5) v61 λv62=>dL (Addr.add ⟨b,0,none⟩ 6) (.int .i64 a6) v62 λv63=>dL (Addr.add ⟨b,0,none⟩ 7) (.int .i64 a7) v63 λv64=>
 dL (Addr.add ⟨b,0,none⟩ 8) (.int .i64 a8) v64 λv65=>dL (Addr.add ⟨b,0,none⟩ 9) (.int .i64 a9) v65 λv66=>dL (Addr.add ⟨b,0,none⟩ 10) (.int .i64 a10) v66 K:=by
 unfold V5 at hb;refine hb.s1 aA λF o1 s=>s.s1 aA λC o2 y=>y.s1 aA λv3 o3 m=>m.s1 aA λB o4 p=>p.s1 aA λH o5 j=>j.s1 aA λE o6 r=>r.s1 aA λG o7 x=>x.s1 aA λD o8 z=>z.s1 aA λA o9 u=>u.s1 aA λi fV d=>d.s1 aA λg a e=>?_;exact hK g ((((((((((o1.ext.trans o2.ext).trans o3.ext).trans o4.ext).trans o5.ext).trans o6.ext).trans o7.ext).trans o8.ext).trans o9.ext).trans fV.ext).trans a.ext) e
theorem l9.fin {a0 a1 a2 a3 a4 a5 a6 a7 a8 a9 a10:Int}(B:l9 σ nb sb v [a0,a1,a2,a3,a4,a5,a6,a7,a8,a9,a10]){R:Int->Int->Int->Int->Int->Int->Int->Int->Int->Int->Int->Hp->Prop}(hR:∀w,bO σ w->R a0 a1 a2 a3 a4 a5 a6 a7 a8 a9 a10 w) :
 fF .i64 (Addr.add ⟨sb,0,none⟩ 0) v λt0=>fF .i64 (Addr.add ⟨sb,0,none⟩ 1) v λt1=>fF .i64 (Addr.add ⟨sb,0,none⟩ 2) v λt2=>fF .i64 (Addr.add ⟨sb,0,none⟩ 3) v λt3=>fF .i64 (Addr.add ⟨sb,0,none⟩ 4) v λt4=>
 fF .i64 (Addr.add ⟨sb,0,none⟩ 5) v λt5=>fF .i64 (Addr.add ⟨sb,0,none⟩ 6) v λt6=>fF .i64 (Addr.add ⟨sb,0,none⟩ 7) v λt7=>fF .i64 (Addr.add ⟨sb,0,none⟩ 8) v λt8=>fF .i64 (Addr.add ⟨sb,0,none⟩ 9) v λt9=>fF .i64 (Addr.add ⟨sb,0,none⟩ 10) v λt10=>
 dL (Addr.add ⟨nb,0,none⟩ 0) (.int .i64 t0) v λv57=>dL (Addr.add ⟨nb,0,none⟩ 1) (.int .i64 t1) v57 λv58=>dL (Addr.add ⟨nb,0,none⟩ 2) (.int .i64 t2) v58 λv59=>dL (Addr.add ⟨nb,0,none⟩ 3) (.int .i64 t3) v59 λv60=>
 dL (Addr.add ⟨nb,0,none⟩ 4) (.int .i64 t4) v60 λv61=>dL (Addr.add ⟨nb,0,none⟩ 5) (.int .i64 t5) v61 λv62=>dL (Addr.add ⟨nb,0,none⟩ 6) (.int .i64 t6) v62 λv63=>dL (Addr.add ⟨nb,0,none⟩ 7) (.int .i64 t7) v63 λv64=>
 dL (Addr.add ⟨nb,0,none⟩ 8) (.int .i64 t8) v64 λv65=>dL (Addr.add ⟨nb,0,none⟩ 9) (.int .i64 t9) v65 λv66=>dL (Addr.add ⟨nb,0,none⟩ 10) (.int .i64 t10) v66 λv67=>
 fF .i64 (Addr.add ⟨nb,0,none⟩ 0) v67 λt0=>fF .i64 (Addr.add ⟨nb,0,none⟩ 1) v67 λt1=>fF .i64 (Addr.add ⟨nb,0,none⟩ 2) v67 λt2=>fF .i64 (Addr.add ⟨nb,0,none⟩ 3) v67 λt3=>fF .i64 (Addr.add ⟨nb,0,none⟩ 4) v67 λt4=>
 fF .i64 (Addr.add ⟨nb,0,none⟩ 5) v67 λt5=>fF .i64 (Addr.add ⟨nb,0,none⟩ 6) v67 λt6=>fF .i64 (Addr.add ⟨nb,0,none⟩ 7) v67 λt7=>fF .i64 (Addr.add ⟨nb,0,none⟩ 8) v67 λt8=>fF .i64 (Addr.add ⟨nb,0,none⟩ 9) v67 λt9=>fF .i64 (Addr.add ⟨nb,0,none⟩ 10) v67 λt10=>
 R t0 t1 t2 t3 t4 t5 t6 t7 t8 t9 t10 v67:=by
 refine B.rd rfl (B.rd rfl (B.rd rfl (B.rd rfl (B.rd rfl (B.rd rfl (B.rd rfl (B.rd rfl (B.rd rfl (B.rd rfl (B.rd rfl (tI B.n a0 a1 a2 a3 a4 a5 a6 a7 a8 a9 a10 λw e b=>?_)))))))))));refine b.rI rfl (b.rI rfl (b.rI rfl (b.rI rfl (b.rI rfl (b.rI rfl (b.rI rfl (b.rI rfl (b.rI rfl (b.rI rfl (b.rI rfl (hR w ?_)))))))))));exact Ext.fresh B.e e λi (a:i=nb)=>by have:=B.h1;omega
theorem HH.D6 (h:HH σ F L H){x:eC}(hx:L.ts[t]?=some x)(hg:H.bQ[t]?=some g){ty:Nat}{K:Addr->Hp->Prop}(hK:∀v,bO σ v->σ.size<v.size->bX v σ.size (jP (x,g))->K ⟨σ.size,0,none⟩ v) :
 Ix L.cL.a L.cL.len (t:Int) 3 λa58=>fZ (a58.add 0) σ λt59=>jk (a58.add 1) σ λt591=>wo (a58.add 2) σ λt592=>
  Nw (.cells #[.pointer none,.slice none 0 0,.nilIface] ty (0,0)) σ λn7 v17=>O1 t592<|dL (n7.add 0) (.pointer t59) v17 λv18=>dL (n7.add 1) (.slice t591.a t591.len t591.cap) v18 λv19=>dL (n7.add 2) t592 v19 λv20=>K n7 v20:=by
 obtain⟨b,o,s,w⟩:=Ui h.km hx hg (d:=0) O rfl;obtain⟨R,o1,e,D⟩:=Ui h.km hx hg (d:=1) O rfl;obtain⟨u,o2,j,E⟩:=Ui h.km hx hg (d:=2) O rfl;rw[s]at e j;cases e;cases j;have Q:=h.jy;have S:=(cQ.1 hg).1;rw[s];refine ix O O ?_;rw[add_lit,show o+(t:Int).toNat*3=o+3*t by omega];refine s7 (by rw[add_lit,qn];exact w) (oA (by rw[add_lit,qn];exact D) ⟨_,by rw[add_lit,qn];exact E,?_⟩);refine nw (cs:=[.pointer none,.slice none 0 0,.nilIface]) λP G J u=>?_;have C:∀{A:Prop},A->O1 (nv g.ph) A:=λ{A} r=>by
  cases g.ph with
  | none=>exact r
  | some p=>cases p<;>exact r
 refine C (u.s1 aA λv3 o3 z=>z.s1 aA λN o4 B=>B.s1 aA λM o5 y=>?_);exact hK M (Ext.fresh (Ext.fresh (Ext.fresh J o3.ext λi m=>O) o4.ext λi m=>O) o5.ext λi m=>O) (by have:=o3.1;have:=o4.1;have:=o5.1;omega) y
structure wJ (H:Hw):Prop where
 cache:V0 H<=20971520
 dZ:Ve Uf H<=160000000000
 room:Ve pX H<=160000000000
 EK:Ve Uu H<=160000000000
 Fp:Ve Ud H<=160000000000
 runs:Ve Uh H<=4096
 free:Ve VB H<=4096
set_option maxRecDepth 16000 in
theorem Eh (h:HH σ F L H)(hi:HI H held s0)(hh:∀g∈H.bQ,g.bP=[]){R:Int->Int->Int->Int->Int->Int->Int->Int->Int->Int->Int->Hp->Prop}
 (hR:∀σ',bO σ σ'->wJ H->R (Hg H.live) (V0 H:Nat) 0 (Ve Uf H:Nat) (Ve pX H:Nat) (Ve Uu H:Nat) (Ve Uh H*256:Nat) (Ve Ud H:Nat) (Ve VB H:Nat) (VI H.sp.st:Nat) (H.sp.st.count 2:Nat) σ'):YU.c (aW L.p) σ R:=by
 refine YU.o ?_;unfold YU.v;refine nw (cs:=V5) λv hz e hb=>KB (h.bK e) (cG rfl ?_);have hv:=h.bK e;generalize hm0:((VI H.sp.st:Nat):Int)=M at hR;generalize hd0:((H.sp.st.count 2:Nat):Int)=D at hR;refine Ns (λs w=>∃d,s=⟨d,0,none⟩/\l9 σ σ.size d w [0,0,0,0,0,0,0,0,0,M,D]) (λs w ⟨d,hs,B⟩=>?_) λJ hJ=>?_
 ·subst hs;have hw:=h.bK B.e;have B0:=B;refine aG (hw.hd.rM rfl ?_);have hml:=hw.kC;have hll:=hi.iN;refine wL (c:=.ag 4) hml (λ(b:List (Int×Bk)) u=>∃z:Int,l9 σ σ.size d u [z,0,0,0,0,0,0,0,0,M,D]/\(b.map (·.1)).Nodup/\(∀y∈b,y∈H.live)/\0<=z/\z+(b.map λe=>mf e.2).sum=Hg H.live) (λu hz eu=>⟨0,B.fr eu,hml.nodup,λy X=>X,O,by rw[Int.zero_add];rfl⟩) (λu ⟨z,B,_,_,_,hz⟩=>?_) ?_
  ·have hz':z=Hg H.live:=by simpa using hz
   subst hz';have hu:=h.bK B.e;have ht2:=h.s.t2;refine aG (hu.hd.rS rfl ?_);refine ZU (a:=bN) (λ(i:Int) u=>∃k:Nat,i=k/\k<=H.bQ.length/\l9 σ σ.size d u [Hg H.live,(((H.bQ.take k).map λg=>Qt H.tb g.ls).sum:Nat),0,0,0,0,0,0,0,M,D]/\((H.bQ.take k).map λg=>Qt H.tb g.ls).sum<=k*5242880) (λi _=>H.bQ.length-i.toNat) ⟨0,rfl,O,by simpa using B,by simp⟩ ?_;rintro(i:Int) u1 ⟨k,rfl,hk,B,hsum⟩;have h1:=h.bK B.e;have htl:=h1.jy;refine cI (λQ=>?_) λhge=>?_
   ·have W:k<H.bQ.length:=by simp only at Q;omega
    obtain⟨x,g,N,V⟩:=h1.th W;have hsb:=B.s.lt;refine h1.D6 N V λv1 e1 hlt1 b1=>?_;have B1:=B.fr e1;have h2:=h1.bK e1;have hca:=h2.Si N V;have hby:=J5 hca hca.Lr;have hnl:=h2.RV N V;rw[hh g (zE V)]at hnl;refine⟨λm=>bO v1 m,Ext.refl _ _,B1.rdH rfl (bX.rH (c:=.p) (y:=some ⟨x.c.p,0,none⟩) b1 rfl (AA hca λv2 e2=>⟨e2,?_⟩))⟩;have B2:=B1.fr e2;have b2:=e2.bZ b1 id;have hs:=Jx (λg=>Qt H.tb g.ls) V;refine cA (m:=((H.bQ.take (k+1)).map λg=>Qt H.tb g.ls).sum) (by rw[hs];simp) (by rw[hs];omega) (B2.st O λv3 e3 B3=>?_);have b3:=e3.bZ b2 (λ(N:u1.size=d)=>O);refine b3.rS rfl (ZU (a:=bN) (λ(c:Int) w=>w=v3/\c=0) (λ_ _=>0) ⟨rfl,rfl⟩ ?_);rintro(c:Int) w ⟨rfl,rfl⟩;refine cI (λhl=>?_) λ_=>cA (m:=k+1) O O ⟨⟨k+1,rfl,O,B3,by rw[hs];omega⟩,O⟩;have:=hnl.qE;simp only at hl;omega
   ·have Z:k=H.bQ.length:=by simp only at hge;omega
    subst Z;rw[zl]at B hsum;have aa:V0 H<=20971520:=by unfold V0;omega
    have ha2:=h.s.a2;refine aG (h1.hd.rS rfl ?_);have G:∀A∈H.bT,GA A:=λA j=>by obtain⟨k,hk⟩:=zN j;exact hi.wi.ga k A hk
    let P (f:AR->Nat) (k:Nat):Nat:=((H.bT.take k).map f).sum
    have hP:∀(f:AR->Nat) {k:Nat} {A:AR},H.bT[k]?=some A->P f (k+1)=P f k+f A:=λf _ _ j=>Jx f j;have U:∀{f:AR->Nat} {c:Nat},(∀A∈H.bT,f A<=c)->∀k,P f k<=k*c:=λhf k=>Of hf k;have C:∀f,P f H.bT.length=Ve f H:=λf=>by show((H.bT.take H.bT.length).map f).sum=_;rw[zl];rfl
    have E:∀f,P f 0=0:=λf=>by show((H.bT.take 0).map f).sum=0;simp
    clear_value P
    refine ZU (a:=bN) (λ(i:Int) u=>∃k:Nat,i=k/\k<=H.bT.length/\l9 σ σ.size d u [Hg H.live,(V0 H:Nat),0,(P Uf k:Nat),(P pX k:Nat),(P Uu k:Nat),(P Uh k*256:Nat),(P Ud k:Nat),(P VB k:Nat),M,D]/\P Uf k<=k*40000000000/\P pX k<=k*40000000000/\P Uu k<=k*40000000000/\P Ud k<=k*40000000000) (λi _=>H.bT.length-i.toNat) ⟨0,rfl,O,?_⟩ ?_
    ·rw[E,E,E,E,E,E];exact⟨B,O,O,O,O⟩
    rintro(i:Int) u2 ⟨k,rfl,hk,B,l1,l2,l3,l4⟩;have h2:=h.bK B.e;have hal:=h2.jY;refine cI (λQ=>?_) λhge=>?_
    ·have W:k<H.bT.length:=by simp only at Q;omega
     have j:H.bT[k]?=some H.bT[k]:=cM _;generalize H.bT[k]=A at j;have ga:=G A (zE j);have r5:=Ct ga;have r6:=Bf ga;obtain⟨Y,X,_,hAY⟩:=h2.ar j;refine h2.rA X (TZ hAY O λv2 e2 ⟨r1,r2,r3,r4⟩=>?_);have B2:=B.fr e2;have s1:=hP Uf j;have s2:=hP pX j;have s3:=hP Uu j;have s4:=hP Ud j;have s5:=hP Uh j;have s6:=hP VB j;have l5:=U (f:=Uh) (λA j=>Ct (G A j)) k;have l6:=U (f:=VB) (λA j=>Bf (G A j)) k;have hfr:((iR A.n A.S:Nat):Int)=(VB A:Nat):=rfl;refine B2.rd rfl (cA (m:=P Uf (k+1)) (by rw[s1];simp) O (B2.rd rfl (cA (m:=P pX (k+1)) (by rw[s2];simp) O (B2.rd rfl (cA (m:=P Uu (k+1)) (by rw[s3];simp) O ?_)))));refine B2.st O λv3 _ B3=>B3.st O λv4 _ B4=>B4.st O λv5 _ B5=>?_;refine B5.rd rfl (cA (m:=P Ud (k+1)) (by rw[s4];simp) O (B5.rd rfl (cA (m:=Uh A*256) aA O (cA (m:=P Uh (k+1)*256) (by rw[s5,zk];simp) O (B5.rd rfl (cA (m:=P VB (k+1)) (by rw[s6,hfr];simp) O ?_))))));refine B5.st O λv6 _ B6=>B6.st O λv7 _ B7=>B7.st O λv8 _ B8=>?_;exact cA (m:=k+1) O O ⟨⟨k+1,rfl,O,B8,O,O,O,O⟩,O⟩
    ·have Z:k=H.bT.length:=by simp only at hge;omega
     subst Z;have l5:=U (f:=Uh) (λA j=>Ct (G A j)) H.bT.length;have l6:=U (f:=VB) (λA j=>Bf (G A j)) H.bT.length;rw[C]at l1 l2 l3 l4 l5 l6;rw[C,C,C,C,C,C]at B;exact B.fin λw e=>hR w e ⟨aa,O,O,O,O,O,O⟩
  ·rintro(b:List (Int×Bk)) n (x:Bk) w1 w2 J1 ⟨z,B,hn,hin,hz0,hz⟩ N ho Q hJ1;have hsb:=B0.s.lt;have hnb:=B0.n.lt;have hz2:=ho.1;have hlm:L.lm<σ.size:=h.kC.lt;have B2:=B.own ho (.inr ⟨O,O,O⟩);have hl:=hin _ N;have hdel:=Fe mf hn N;have K:∀y∈b.filter λy=>!(y.1==n),y∈H.live:=λy X=>hin y (zH.1 X).1;have hn':((b.filter λy=>!(y.1==n)).map (·.1)).Nodup:=hn.sublist (List.filter_sublist.map _);have ab:=(Vl (f:=λe:Int×Bk=>mf e.2) (c:=270000) λe he=>Bb hi (K e he)).1;have hall:=(Vl (l:=H.live) (f:=λe:Int×Bk=>mf e.2) (c:=270000) λe he=>Bb hi he).2;have hst:(H.live.map λe:Int×Bk=>mf e.2).sum=Hg H.live:=rfl;have hx0:=Bb hi hl;rw[hst]at hall;obtain⟨rs,hrs⟩:∃rs,((b.filter λy=>!(y.1==n)).map λe:Int×Bk=>mf e.2).sum=rs:=⟨_,rfl⟩;have hdel':(b.map λe:Int×Bk=>mf e.2).sum=mf x+rs:=by rw[←hrs];exact hdel
   have hz':z+(b.map λe:Int×Bk=>mf e.2).sum=Hg H.live:=hz;rw[hrs]at ab;have V:∀y:Int,y+rs=Hg H.live->y+((b.filter λy=>!(y.1==n)).map λe:Int×Bk=>mf e.2).sum=Hg H.live:=λy X=>by rw[hrs];exact X
   refine nw (cs:=[.int .i64 0,.int .i64 0,.int .i64 0,.int .i64 0]) λv2 hzv e2 b2=>b2.s1 aA λv3 o3 b3=>b3.s1 aA λv4 o4 b4=>b4.s1 aA λv5 o5 b5=>b5.s1 aA λv6 o6 b6=>?_;have e6:bO w2 v6:=Ext.fresh (Ext.fresh (Ext.fresh (Ext.fresh e2 o3.ext λi hi=>O) o4.ext λi hi=>O) o5.ext λi hi=>O) o6.ext λi hi=>by omega
   have B6:=B2.fr e6;refine b6.rI rfl (cI (λhpos=>B6.rd rfl (b6.rI rfl ?_)) λhneg=>?_)
   ·have hs:mf x=x.2.1:=by unfold mf;exact zB hpos
    have hx1:0<=x.2.1/\x.2.1<=270000:=by rw[←hs];exact hx0
    refine ar O O (B6.st O λv7 e7 B7=>hJ1 v7 ?_ ?_ ⟨z+x.2.1,B7,hn',K,O,V _ O⟩)
    ·rw[e7.2 _ (by have:=e6.1;omega) (λ(N:w.size=d)=>O),e6.2 _ O id]
    ·rw[e7.2 _ (by have:=e6.1;omega) (λ(N:L.lm=d)=>by have:=B6.h2;omega),e6.2 _ O id]
   ·have hs:mf x=0:=by unfold mf;exact zA hneg
    refine hJ1 v6 (e6.2 _ O id) (e6.2 _ O id) ⟨z,B6,hn',K,hz0,V _ O⟩
 ·have hS:dE v F L.hs H.sp:=hv.Af;have fin:∀w d,bO v w->bX w d V5->v.size<=d->dL (Addr.add ⟨d,0,none⟩ 0) (.int .i64 0) w λv57=>dL (Addr.add ⟨d,0,none⟩ 1) (.int .i64 0) v57 λv58=>dL (Addr.add ⟨d,0,none⟩ 2) (.int .i64 0) v58 λv59=>dL (Addr.add ⟨d,0,none⟩ 3) (.int .i64 0) v59 λv60=>
   dL (Addr.add ⟨d,0,none⟩ 4) (.int .i64 0) v60 λv61=>dL (Addr.add ⟨d,0,none⟩ 5) (.int .i64 0) v61 λv62=>dL (Addr.add ⟨d,0,none⟩ 6) (.int .i64 0) v62 λv63=>dL (Addr.add ⟨d,0,none⟩ 7) (.int .i64 0) v63 λv64=>
   dL (Addr.add ⟨d,0,none⟩ 8) (.int .i64 0) v64 λv65=>dL (Addr.add ⟨d,0,none⟩ 9) (.int .i64 M) v65 λv66=>dL (Addr.add ⟨d,0,none⟩ 10) (.int .i64 D) v66 λv67=>J ⟨d,0,none⟩ v67:=λw d r bw hsb=>by
   have hv1:=hb.lt;refine tI bw 0 0 0 0 0 0 0 0 0 M D λw' e' b'=>hJ _ w' ⟨d,rfl,Ext.fresh (e.trans r) e' (λi (hi:i=d)=>O),e'.bZ (r.bZ hb id) (λ(N:σ.size=d)=>O),b',zD _,O,O,rfl⟩
  refine⟨λm=>bO v m,Ext.refl _ _,aG (bX.rH (c:=.p) (y:=some ⟨L.hs,0,none⟩) hv.hd rfl (aG (bX.rH (c:=.p) (y:=some ⟨L.hs,0,none⟩) hv.hd rfl ⟨?_,?_⟩)))⟩
  ·refine I7 hS ⟨Ext.refl _ _,Bh hS ⟨Ext.refl _ _,?_⟩,?_⟩
   ·rw[hm0,hd0];exact nw (cs:=V5) λw hzw r bw=>⟨r,fin w _ r bw (zD _)⟩
   ·refine nw (cs:=V5) λw hzw r bw=>⟨r,Bh (hv.bK r).Af ⟨r,?_⟩⟩;rw[hm0,hd0];exact fin w _ r bw (zD _)
  ·refine nw (cs:=V5) λw hzw r bw=>⟨r,I7 (hv.bK r).Af ⟨r,Bh (hv.bK r).Af ⟨r,?_⟩⟩⟩;rw[hm0,hd0];exact fin w _ r bw (zD _)
end Go.Ar
namespace Go.Ar
open Go.Vc (bV dF cT)
def i63 (x:Int):Bool:=decide (x<=9223372036854775807)
def qi (H:Hw)(t:Nat):Ph->Bool
 | .take k=>decide (k<H.tb.length)&&(match Ka (H.cls k) ((H.kI t).li k)with
  | (some y,_)=>i63 y
  | (none,_)=>true)
 | .cN k _=>decide (k<H.tb.length)&&(Z7 (H.eN t) (k:Int) != 0 || !(YM (H.eN t) (k:Int)).isEmpty)
 | .cP _ _=>true
 | .grow _ _=>true
 | .fill=>match (H.kI t).bP with
  | (k,x::xs)::_=>decide (k<H.tb.length)&&(i63 x&&decide (((H.kI t).li k).os.length+xs.length<=256))
  | _=>false
 | .eR m=>decide (Z6 (H.eN t) H.sp (m:Int) 1<=1000000)
 | .find x=>i63 x&&((bV H.live x).isSome&&decide (0<=x))
 | .put k _=>decide (k<H.tb.length) && !(H.kI t).bP.isEmpty
 | .back=>match (H.kI t).bP with
  | (_,xs)::_=>(xs.all λx=>i63 x&&decide (0<=YK H.bT x))&&decide (xs.length<=1000000)
  | _=>false
 | .dI _ a=>decide (0<=a)&&(decide (a.toNat<H.bT.length)&&H.bT.all λA=>A.runs.all λr=>decide (r.1<=1000000))
 | .drain=>true
theorem xQ {x:Int}(h:i63 x=true):iO x:=by
 unfold i63 at h;unfold iO;exact pS h
theorem Om {H:Hw}{t:Nat}{p:Ph}(h:qi H t p=true):uQ H t p:=by
 cases p with
 | take k=>
  simp only[qi,zF,zS]at h;refine⟨h.1,λy l j=>?_⟩;have g:=h.2;rw[j]at g;exact xQ g
 | cN k w=>
  simp only[qi,zF,zS,nV]at h;refine⟨h.1,λu d=>?_⟩;rw[u,d]at h;simp at h
 | cP k w=>trivial
 | grow k w=>trivial
 | fill=>
  simp only[qi]at h;split at h
  ·rename_i k x xs r hh;simp only[zF,zS]at h;exact⟨k,x,xs,r,hh,h.1,xQ h.2.1,h.2.2⟩
  ·cases h
 | eR m=>
  simp only[qi,zS]at h;exact h
 | find x=>
  simp only[qi,zF,zS]at h;exact⟨xQ h.1,λi=>by rw[i]at h;simp at h,λb _=>h.2.2⟩
 | put k x=>
  simp only[qi,zF,zS]at h;exact⟨h.1,λd=>by rw[d]at h;simp at h⟩
 | back=>
  simp only[qi]at h;split at h
  ·rename_i k xs r hh;simp only[zF,zS,kM]at h;exact⟨k,xs,r,hh,λx e=>⟨xQ (h.1 x e).1,(h.1 x e).2⟩,h.2⟩
  ·cases h
 | dI s a=>
  simp only[qi,zF,zS,kM]at h;exact⟨h.1,h.2.1,h.2.2⟩
 | drain=>trivial
def pc:Nat->Hw->Nat->Ph->Option (Hw×Int×Int)
 | 0,_,_,_=>none
 | n+1,H,t,p=>if qi H t p&&decide ((H.kI t).bP.length<=900)then(match (Wt H t p).2.1 with
  | none=>some (QP H t p,(Wt H t p).2.2.1,(Wt H t p).2.2.2)
  | some p'=>pc n (QP H t p) t p')else none
theorem Ev:∀{n:Nat} {H:Hw} {t:Nat} {p:Ph} {r:Hw×Int×Int},pc n H t p=some r->∃m,iW m H t p r.1 r.2.1 r.2.2
 | 0,_,_,_,_,h=>by simp[pc]at h
 | n+1,H,t,p,r,h=>by
  rw[pc]at h;split at h
  ·rename_i hc;simp only[zF,zS]at hc;have hok:ve H t p:=⟨Om hc.1,λg a=>by rw[←GJ a];exact hc.2⟩;split at h
   ·rename_i hn;cases h;exact⟨1,.done hok hn⟩
   ·rename_i p' hs;obtain⟨m,b⟩:=Ev h;exact⟨m+1,.next hok hs b⟩
  ·cases h
def y6 (H:Hw)(thread kind size align addr:Int):Option (Hw×Int×Int):=match KG H thread kind size align addr with
 | .inl e=>if e=0 then none else some (H,0,e)
 | .inr (t,p)=>pc 40 (eU H t (some p)) t p
theorem PO {H:Hw}{thread kind size align addr:Int}{r:Hw×Int×Int}(h:y6 H thread kind size align addr=some r):U5 H thread kind size align addr r.1 r.2.1 r.2.2:=by
 unfold y6 at h;split at h
 ·rename_i e he;split at h
  ·cases h
  ·rename_i hne;cases h;exact .inl ⟨he,hne,rfl,rfl⟩
 ·rename_i t p he;obtain⟨m,a⟩:=Ev h;exact .inr ⟨t,p,m,he,a⟩
def ug:List bW:=(qI 8).map ZV
def w0:Hw:=Ug ug ⟨64,1,1,1024,2⟩
def pz (H:Hw)(kind size addr:Int):Hw×Int×Int:=(y6 H 0 kind size (if kind=0 then 8 else 0) addr).getD (H,0,99)
theorem Pm {H:Hw}{kind size addr:Int}(h:(pz H kind size addr).2.2≠99):U5 H 0 kind size (if kind=0 then 8 else 0) addr (pz H kind size addr).1 (pz H kind size addr).2.1 (pz H kind size addr).2.2:=by
 unfold pz at *;cases hw:y6 H 0 kind size (if kind=0 then 8 else 0) addr with
 | none=>rw[hw]at h;exact absurd rfl h
 | some r=>exact PO hw
theorem Dc {H:Hw}{kind size addr al a e:Int}{N:Hw×Int×Int}(hN:N=pz H kind size addr)(h:N.2=(a,e))(hne:e≠99)(hal:al=if kind=0 then 8 else 0):U5 H 0 kind size al addr N.1 a e:=by
 have b:=Pm (H:=H) (kind:=kind) (size:=size) (addr:=addr) (by rw[←hN,h];exact hne);rw[←hN,h,←hal]at b;exact b
theorem wc:Ug ((qI 8).map ZV) ⟨(64:Int).toNat,(1:Int).toNat,(1:Int).toNat,(1024:Int).toNat,(2:Int).toNat⟩=w0:=rfl
end Go.Ar
namespace Go.Ar
open Go Go.Vc Go.Proofs
variable {σ u u':Hp}{F:Rg}{L:dR}{H H':Hw}{N:Nat}
attribute [local irreducible] w0 pz ug
theorem Ms (g:Gl σ)(gd:Gd σ){R:Option Addr->Hp->Prop}(hR:∀σ' L N,bO σ σ'->σ.size<=N->N<=σ'.size->HH σ' (λb=>N<=b) L w0->R (some ⟨L.p,0,none⟩) σ'):XE.c σ R:=by
 refine XE.o ?_;unfold XE.v;refine Wu.o ?_;unfold Wu.v;refine nw (cs:=[.int .i64 8,.int .i64 64,.int .i64 1,.int .i64 1,.int .i64 1024,.int .i64 2]) λv A e r=>r.rI rfl ?_;refine FC 8 aB aB λs y i z=>?_;have a:=i.bZ r id;have d:=e.trans i;refine a.gF rfl (a.gF rfl (a.gF rfl (a.gF rfl (a.gF rfl ?_))));refine Dv z (g.bK d) (gd.bK d) 64 1 1 1024 2 (λj=>?_) (λ_ w=>?_) λ_ _ x L m u=>?_
 ·have:=Gj 8 aB aB;rw[show((8:Nat):Int)=8 from rfl]at this;rw[this]at j;cases j
 ·exact absurd w aB
 ·rw[wc]at u;exact cG rfl (hR x L y.size (d.trans m) d.1 m.1 u)
end Go.Ar
namespace Go.Proofs
open Go.Vc
set_option maxRecDepth 100000
def Z1.h:Hn:=.q .o2 (.q (.q .o3 .aJ) (.q (.q (.cV (.seq [.op,.op,.op,.dD false 2 [.op,.op],.op,.dD false 2 [.op,.op],.op,.dD false 2 [.op,.op],.op,.dD false 5 (RI.ops 5)])) .aJ) (.q .o9 (.q (.q .o2 (.c (.q .o9 .l) .l)) (.q .fV (.q .fV (.q (.oq 16) .l)))))))
def Z1.v (a:Sl)(b c:Int)(d:Hp)(e:Int->Int->Hp->Prop):Prop:=ZE.c a d λf g=>If (!f) (e 0 2 g) (bY (λh i=>bY (λj k=>bY (λl m=>bY (λn o=>If n (e 0 1 o) (Z2.c a b c o λp q r=>If (q != 0) (bL (b+256) λs=>bL (s-1) λt=>Nz 256<|bL (t.tdiv 256) λu=>bL (u*256) λv=>bL (v-b) λw=>e w 0 r) (Ix a.a a.len p 3 λx=>aQ x 0 r λy=>aQ x 1 r λz=>aQ x 2 r λaa=>Zd.c y z aa r λab ac ad=>Ix a.a a.len p 3 λae=>aQ ae 0 ad λaf=>aQ ae 1 ad λag=>aQ ae 2 ad λah=>Qo.c af ag ah ad λai aj ak=>Ix a.a a.len p 3 λal=>aQ al 0 ak λam=>bL (am-b) λan=>bL (ai+ab) λao=>bL (ao-1) λap=>Nz ab<|bL (ap.tdiv ab) λaq=>bL (an+aq) λar=>e ar 0 ak))) λau=>If l (au true m) (bL (c-1) λav=>au ((bits .and .i64 c av) != 0) m)) λaw=>If j (aw true k) (aw (decide (c>256)) k)) λax=>If h (ax true i) (ax (decide (c<1)) i)) λay=>If (b<1) (ay true g) (ay (decide (b>16384)) g))
theorem Z1.o {a b c d e}(f:Z1.v a b c d e):Z1.c a b c d e:=Wa Tryz.func14 (x:=Z1.h) (R0 f)
def QK.h:Hn:=.q .o2 (.q (.q .o3 .aJ) (.q .o6 .l))
def QK.v (a:R2)(b:Hp)(c:Option Addr->Int->Hp->Prop):Prop:=QB.c a b λd e=>If (!d) (c none 1 e) (Nw (.map #[] 0) e λf g=>aV #[.pointer a,.map (some f.block),.I 0,.I 0,.I 0,.I 0,.I 0,.I 0] 38 g λh i=>c (some h) 0 i)
theorem QK.o {a b c}(d:QK.v a b c):QK.c a b c:=Wa Tryz.func19 (x:=QK.h) (R0 d)
def XD.h:Hn:=.q .o2 (.q (.q .o3 .aJ) (.q (.o 13) (.jI [] (.q .o2 (.c (.q .o3 (.q .o7 .o9)) .l)) (.q .o6 (.q .o4 .l)))))
def XD.v (a:R2)(b c d:Int)(e:Hp)(f:Int->Int->Hp->Prop):Prop:=Xu.c a e λg h=>If (!g) (f 0 5 h) (bS a λi=>aY i 0 h λj=>Yk.c j b c d h λk l m=>Jn [] (λn=>bS a λo=>X0.c a l (some (o.add 5)) n λp=>f k l p) λq=>If (l==0) (Xw.c a k m λr=>bI a 1 r λt=>k6 .i64 bN t k c r λu=>bD a 2 u λw=>bL (w+c) λx=>bS a λy=>aR y 2 (.I x) u λz=>q z) (q m))
theorem XD.o {a b c d e f}(g:XD.v a b c d e f):XD.c a b c d e f:=Wa Tryz.func20 (x:=XD.h) (R0 g)
def Zc.h:Hn:=.q .o1 (.q (.q .o3 .aK) (.q .o8 (.jI [] (.q .o2 (.c .o3 .l)) (.q .o6 .aL))))
def Zc.v (a:R2)(b c:Int)(d:Hp)(e:aN):Prop:=Xu.c a d λf g=>If (!f) (e 5 g) (bF a 0 g λi=>Zi.c i b c g λj k=>Jn [] (λl=>bS a λm=>X0.c a j (some (m.add 6)) l λn=>e j n) λo=>If (j==0) (Xw.c a c k λp=>o p) (o k))
theorem Zc.o {a b c d e}(f:Zc.v a b c d e):Zc.c a b c d e:=Wa Tryz.func23 (x:=Zc.h) (R0 f)
def XG.h:Hn:=.q .o1 (.q (.q .o3 .aJ) (.q .o7 (.q (.cV (.held true [47] (.tk [0,1,2,3,4,5,6,7,10,11,12,13,14,15,16,17,18,19,20,21,22,23,24,25,26,27,28,29,30,31,32,33,34,35,36,37,38,39,40,41,42,43,44,45] (.all [(8,.all [(9,.take 46 (.all [(47,.done)]))])])))) .l)))
def XG.v (a:R2)(b:Hp)(c:Int->Int->Int->Int->Int->Int->Int->Int->Int->Int->Hp->Prop):Prop:=aV #[.I 0,.I 0,.I 0,.I 0,.I 0,.I 0,.I 0,.I 0,.I 0,.I 0] 56 b λd e=>Xu.c a e λf g=>If (!f) (aR d 0 (.I 0) g λh=>aR d 1 (.I 0) h λi=>aR d 2 (.I 0) i λj=>aR d 3 (.I 0) j λk=>aR d 4 (.I 0) k λl=>aR d 5 (.I 0) l λm=>aR d 6 (.I 0) m λn=>aR d 7 (.I 0) n λo=>aR d 8 (.I 0) o λp=>aR d 9 (.I 0) p λq=>aQ d 0 q λr=>aQ d 1 q λs=>aQ d 2 q λt=>aQ d 3 q λu=>aQ d 4 q λv=>aQ d 5 q λw=>aQ d 6 q λx=>aQ d 7 q λy=>aQ d 8 q λz=>aQ d 9 q λaa=>c r s t u v w x y z aa q) (bF a 0 g λac=>YU.c ac g λad ae af ag ah ai aj ak al am an ao=>aV #[.I 0,.I 0,.I 0,.I 0,.I 0,.I 0,.I 0,.I 0,.I 0,.I 0,.I 0] 89 ao λap aq=>aR ap 0 (.I ad) aq λar=>aR ap 1 (.I ae) ar λau=>aR ap 2 (.I af) au λav=>aR ap 3 (.I ag) av λaw=>aR ap 4 (.I ah) aw λax=>aR ap 5 (.I ai) ax λay=>aR ap 6 (.I aj) ay λaz=>aR ap 7 (.I ak) az λa0=>aR ap 8 (.I al) a0 λa1=>aR ap 9 (.I am) a1 λa2=>aR ap 10 (.I an) a2 λa3=>dT a3 λa4=>bS a λa5=>aS a4 a5 2 λa6=>bS a λa7=>aU a4 a7 0 λa8=>aS a4 ap 1 λa9=>aS a4 ap 2 λba=>bL (a9+ba) λbb=>
 aS a4 ap 3 λbc=>bL (bb+bc) λbd=>aS a4 ap 4 λbe=>bL (bd+be) λbf=>aS a4 ap 5 λbg=>aS a4 ap 8 λbh=>bL (bh*256) λbi=>bS a λbj=>aS a4 bj 3 λbk=>bS a λbl=>aS a4 bl 4 λbm=>bS a λbn=>aS a4 bn 5 λbo=>bS a λbp=>aS a4 bp 6 λbq=>bS a λbr=>aS a4 br 7 λbs=>Zp.c a8 a3 λbt bu=>And (a4 bu) <| Xb.c bt ⟨60,#[],#[]⟩ bu λbv bw=>And (a4 bw) <| aR d 0 (.I a6) bw λbx=>aR d 1 (.I bv) bx λbz=>aR d 2 (.I bf) bz λb0=>aR d 3 (.I bg) b0 λb1=>aR d 4 (.I bi) b1 λb2=>aR d 5 (.I bk) b2 λb3=>aR d 6 (.I bm) b3 λb4=>aR d 7 (.I bo) b4 λb5=>aR d 8 (.I bq) b5 λb6=>aR d 9 (.I bs) b6 λb7=>aQ d 0 b7 λb8=>aQ d 1 b7 λb9=>aQ d 2 b7 λca=>aQ d 3 b7 λcb=>aQ d 4 b7 λcc=>aQ d 5 b7 λcd=>aQ d 6 b7 λce=>aQ d 7 b7 λcf=>aQ d 8 b7 λcg=>aQ d 9 b7 λch=>c b8 b9 ca cb cc cd ce cf cg ch b7)
theorem XG.o {a b c}(d:XG.v a b c):XG.c a b c:=Wa Tryz.func24 (x:=XG.h) (R0 d)
def XS.h:Hn:=.q .o1 (.q (.q .o3 .aK) (.q .o6 (.q .o2 (.q (.q .o7 (.k (.loop [(29,.I)] (.q .o1 (.q (.c .l .l) (.q (.k (.q .o4 (.q .o6 (.q .o4 (.q .o5 (.q .o7 (.q (.cV (.tail 11 (RI.ops 11) [.op])) .o5))))))) .o2)))))) (.q .o1 (.q (.q .o1 (.k (.loop [(8,.one .s),(9,.I)] (.q (.q .o4 (.c .l .l)) (.q (.k (.q .o9 (.q (.q .o2 (.c .l .l)) (.jI [] (.q .o2 (.c (.q .fV (.cV (.held true [13,15] (.tk [0,1,2,3,4,5,6,7,8,9,10,11,12] (.all [(13,.take 14 (.all [(15,.done)]))]))))) .l)) .o5)))) .o3))))) .aL))))))
def XS.v (a:R2)(b:Hp)(c:Sl->Hp->Prop):Prop:=Xu.c a b λd e=>If (!d) (c ⟨none,0,0⟩ e) (bF a 0 e λg=>Yu.c g e λh i=>Nw (.map #[] 0) i λj k=>bF a 0 k λm=>Zp.c m k λn o=>W6 [bN] (λp=>p 0 o) λq (r:Int) s=>If (r<((n.len:Nat):Int)) (Ix n.a n.len r 4 λt=>aQ t 0 s λu=>aQ t 1 s λv=>aQ t 2 s λw=>aQ t 3 s λx=>aV #[.I 0,.I 0,.I 0,.I 0] 76 s λy z=>aR y 0 (.I u) z λaa=>aR y 1 (.I v) aa λab=>aR y 2 (.I w) ab λac=>aR y 3 (.I x) ac λad=>aQ y 2 ad λae=>Lk .i64 (.ag 6) (some j.block) ae ad λaf=>aV #[.I 0,.I 0,.I 0,.I 0,.I 0,.I 0] 80 ad λag ah=>aR ag 0 (.I ((af.getD (0,0,0,0,0,0)).1)) ah λai=>aR ag 1 (.I ((af.getD (0,0,0,0,0,0)).2.1)) ai λaj=>aR ag 2 (.I ((af.getD (0,0,0,0,0,0)).2.2.1)) aj λak=>aR ag 3 (.I ((af.getD (0,0,0,0,0,0)).2.2.2.1)) ak λal=>aR ag 4 (.I ((af.getD (0,0,0,0,0,0)).2.2.2.2.1)) al λam=>aR ag 5 (.I ((af.getD (0,0,0,0,0,0)).2.2.2.2.2)) am λan=>aQ y 2 an λao=>aR ag 0 (.I ao) an λap=>aQ ag 2 ap λaq=>bL (aq+1) λar=>aR ag 2 (.I ar) ap λau=>aQ ag 3 au λav=>aQ y 1 au λaw=>bL (av+aw) λax=>aR ag 3 (.I ax) au λay=>aQ ag 4 ay λaz=>bI a 1 ay λa1=>aQ y 0 ay λa2=>Lk .i64 bN a1 a2 ay λa3=>bL (az+(a3.getD 0)) λa4=>
 aR ag 4 (.I a4) ay λa5=>aQ y 2 a5 λa6=>aQ ag 0 a5 λa7=>aQ ag 1 a5 λa8=>aQ ag 2 a5 λa9=>aQ ag 3 a5 λba=>aQ ag 4 a5 λbb=>aQ ag 5 a5 λbc=>k6 .i64 (.ag 6) (some j.block) a6 (a7,a8,a9,ba,bb,bc) a5 λbd=>bL (r+1) λbe=>q be bd) (W6 [.s,bN] (λbf=>bf ⟨none,0,0⟩ (-1) s) λbg (bh:Sl) (bi:Int) bj=>If (bi<((h.len:Nat):Int)) (Lk .i64 (.ag 6) (some j.block) bi bj λbk=>aV #[.I 0,.I 0,.I 0,.I 0,.I 0,.I 0] 80 bj λbl bm=>aR bl 0 (.I ((bk.getD (0,0,0,0,0,0)).1)) bm λbn=>aR bl 1 (.I ((bk.getD (0,0,0,0,0,0)).2.1)) bn λbo=>aR bl 2 (.I ((bk.getD (0,0,0,0,0,0)).2.2.1)) bo λbp=>aR bl 3 (.I ((bk.getD (0,0,0,0,0,0)).2.2.2.1)) bp λbq=>aR bl 4 (.I ((bk.getD (0,0,0,0,0,0)).2.2.2.2.1)) bq λbr=>aR bl 5 (.I ((bk.getD (0,0,0,0,0,0)).2.2.2.2.2)) br λbs=>If (!bk.isSome) (bL (bi+1) λbt=>bg bh bt bs) (Jn [] (λbu=>aQ bl 0 bu λbv=>aQ bl 1 bu λbw=>aQ bl 2 bu λbx=>aQ bl 3 bu λbz=>aQ bl 4 bu λb0=>aQ bl 5 bu λb1=>aV #[.I bv,.I bw,.I bx,.I bz,.I b0,.I b1] 80 bu λb2 b3=>App bh 6 48 80 [.I 0,.I 0,.I 0,.I 0,.I 0,.I 0] ⟨some b2,1,1⟩ b3 λb4 b5=>bL (bi+1) λb6=>bg b4 b6 b5) λb7=>If (bi≥0) (Ix h.a h.len bi 3 λb8=>aQ b8 0 bs λb9=>aQ b8 1 bs λca=>aQ b8 2 bs λcb=>Zd.c b9 ca cb bs λcc cd ce=>dT ce λcf=>
 Ix h.a h.len bi 3 λcg=>aS cf cg 0 λch=>aS cf bl 2 λci=>bL (ci+cc) λcj=>bL (cj-1) λck=>Nz cc<|bL (ck.tdiv cc) λcl=>aR bl 1 (.I ch) ce λcm=>aR bl 5 (.I cl) cm λcn=>b7 cn) (b7 bs))) (c bh bj)))
theorem XS.o {a b c}(d:XS.v a b c):XS.c a b c:=Wa Tryz.func25 (x:=XS.h) (R0 d)
def QB.h:Hn:=.q .o1 (.q (.cV (.seq [.op,.op,.op,.dD true 4 (RI.ops 4),.op])) .l)
def QB.v (a:R2)(b:Hp)(c:aO):Prop:=bY (λd e=>c d e) λf=>If (!a.isNone) (Y6.c a b λg h i j k l=>f (decide (g>0)) l) (f false b)
theorem QB.o {a b c}(d:QB.v a b c):QB.c a b c:=Wa Tryz.func50 (x:=QB.h) (R0 d)
def Xu.h:Hn:=.q .o1 (.q (.cV (.seq [.op,.op,.op,.dD true 5 (RI.ops 5),.op])) .l)
def Xu.v (a:R2)(b:Hp)(c:aO):Prop:=bY (λd e=>c d e) λf=>If (!a.isNone) (bF a 0 b λh=>f (!h.isNone) b) (f false b)
theorem Xu.o {a b c}(d:Xu.v a b c):Xu.c a b c:=Wa Tryz.func51 (x:=Xu.h) (R0 d)
def Xw.h:Hn:=.q (.cV (.tail 13 (RI.ops 13) [.op])) .o6
def Xw.v (a:R2)(b:Int)(c:Hp)(d:aP):Prop:=bD a 2 c λf=>bI a 1 c λh=>Lk .i64 bN h b c λi=>bL (f-(i.getD 0)) λj=>bS a λk=>aR k 2 (.I j) c λl=>bI a 1 l λn=>mK .i64 bN n b l λo=>d o
theorem Xw.o {a b c d}(e:Xw.v a b c d):Xw.c a b c d:=Wa Tryz.func53 (x:=Xw.h) (R0 e)
def X0.h:Hn:=.jI [] (.q .o2 (.c .o6 .o8)) (.q (.cV (.tail 12 (RI.ops 12) [.op])) (.cV (.held true [15] (.tk [0,1,2,3,4,5,6,7,8] (.all [(9,.tk [10,11,12,13,14] (.all [(15,.done)]))])))))
def X0.v (a:R2)(b:Int)(c:R2)(d:Hp)(e:aP):Prop:=Jn [] (λf=>bD a 3 f λh=>bD a 2 f λj=>bS a λk=>aR k 3 (.I (if j>h then j else h)) f λl=>dT l λm=>bS a λn=>aS m n 4 λo=>bS a λp=>aU m p 0 λq=>YU.c q l λr s t u v w x y z aa ab ac=>And (m ac) <| bL (ab*256) λad=>bS a λae=>aR ae 4 (.I (if ad>o then ad else o)) ac λaf=>e af) λag=>If (b==0) (bS c λah=>bM ah d λai=>bL (ai+1) λaj=>bS c λak=>dL ak (.I aj) d λal=>ag al) (bD a 7 d λan=>bL (an+1) λao=>bS a λap=>aR ap 7 (.I ao) d λaq=>ag aq)
theorem X0.o {a b c d e}(f:X0.v a b c d e):X0.c a b c d e:=Wa Tryz.func54 (x:=X0.h) (R0 f)
def Xb.h:Hn:=.q .o1 (.q .o1 (.q (.q .o3 (.k (.loop [(5,.I),(10,.I)] (.q .o1 (.q (.c .l .l) (.q (.k (.q .o4 .o6)) .o2)))))) .aL))
def Xb.v (a:Sl)(b:Fv)(c:Hp)(d:aN):Prop:=W6 [bN,bN] (λe=>e 0 0 c) λf (g:Int) (h:Int) i=>If (h<((a.len:Nat):Int)) (Ix a.a a.len h 4 λj=>aQ j 0 i λk=>aQ j 1 i λl=>aQ j 2 i λm=>aQ j 3 i λn=>aV #[.I 0,.I 0,.I 0,.I 0] 76 i λo p=>aR o 0 (.I k) p λq=>aR o 1 (.I l) q λr=>aR o 2 (.I m) r λs=>aR o 3 (.I n) s λt=>aQ o 0 t λu=>aQ o 1 t λv=>aQ o 2 t λw=>aQ o 3 t λx=>VU Tryz.prog b [.agg #[.I u,.I v,.I w,.I x]] [.I] t λy z=>bL (g+y) λaa=>bL (h+1) λab=>f aa ab z) (d g i)
theorem Xb.o {a b c d}(e:Xb.v a b c d):Xb.c a b c d:=Wa Tryz.func59 (x:=Xb.h) (R0 e)
def XI.h:Hn:=.q .o2 (.q .o3 .l)
def XI.v (a b c d:Int)(e:Hp)(f:aN):Prop:=aV #[.I a,.I b,.I c,.I d] 76 e λg h=>aQ g 1 h λi=>f i h
theorem XI.o {a b c d e f}(g:XI.v a b c d e f):XI.c a b c d e f:=Wa Tryz.func60 (x:=XI.h) (R0 g)
end Go.Proofs
namespace Go.Ar
open Go Go.Vc Go.Proofs
open Go.Vc (bV dF cT)
open Go.Bu (iR)
variable {σ σ0 v w w':Hp}{F P Q X T:Rg}{L:dR}{H H':Hw}{held:List Pc}{s0:Sp}{t n:Nat}{g:Th}{mb am m:Nat}
structure Me where
 asked:List (Int×Int)
 sum:Int
 dM:Int
 dJ:Int
 cS:Nat
 fU:Nat
 iv:Nat
def Me.calls (x:Me):Nat:=x.cS+x.fU+x.iv
structure lj (x:Me):Prop where
 v:∀y∈x.asked,0<=y.2/\y.2<=16384
 l:x.asked.length<=x.cS
 s:x.sum=(x.asked.map (·.2)).sum
 p:0<=x.dM/\x.dM<=16384000
 d:0<=x.dJ/\x.dJ<=1000000
 c:x.calls<=900
def oL:Me:=⟨[],0,0,0,0,0,0⟩
theorem Cs:lj oL:=⟨by simp[oL],by simp[oL],rfl,by simp[oL],by simp[oL],by simp[oL,Me.calls]⟩
def Me.forget (x:Me)(a:Int):Me:={x with asked:=cT x.asked a,sum:=x.sum-(bV x.asked a).getD 0}
def Me.add (x:Me)(a size:Int):Me:={x with asked:=dF x.asked a size,sum:=x.sum+size}
def Me.count (x:Me)(e:Int)(gO:Bool):Me:=if e=0 then(if gO then{x with cS:=x.cS+1}else{x with fU:=x.fU+1})else{x with iv:=x.iv+1}
def Me.eO (x:Me)(D:Int):Me:={x with dM:=if x.sum>x.dM then x.sum else x.dM,dJ:=if D*256>x.dJ then D*256 else x.dJ}
theorem lj.jc {x:Me}(h:lj x):0<=x.sum/\x.sum<=14745600:=by
 have a:=Vl (l:=x.asked) (f:=λy:Int×Int=>y.2) (c:=16384) h.v;have d:=h.l;have b:=h.c;unfold Me.calls at b;rw[h.s];exact⟨a.1,by have:=a.2;omega⟩
def uU (hp am:Nat)(x:Me):List Value:=[.pointer (some ⟨hp,0,none⟩),.map (some am),.int .i64 x.sum,.int .i64 x.dM,.int .i64 x.dJ,.int .i64 (x.cS:Int),.int .i64 (x.fU:Int),.int .i64 (x.iv:Int)]
structure MP (σ0 σ:Hp) (L:dR) (H:Hw) (held:List Pc) (s0:Sp) (P:Rg) (mb am:Nat) (x:Me):Prop where
 e:bO σ0 σ
 h:HH σ P L H
 hi:HI H held s0
 cf:my H
 ph:∀g∈H.bQ,g.ph=none
 pg:H.cf.aF<=128
 pP:∀b,P b->σ0.size<=b/\b<σ.size
 uv:σ0.size<=mb/\¬P mb
 tW:σ0.size<=am/\¬P am
 ne:mb≠am
 b:bX σ mb (uU L.p am x)
 m:dK σ am .i64 bN x.asked
 g0:iY (λb=>σ0.size<=b)/\¬σ0.size<=1
variable {x y:Me}
theorem MP.fr (p:MP σ0 σ L H held s0 P mb am x)(e:bO σ w):MP σ0 w L H held s0 P mb am x:=
 ⟨p.e.trans e,p.h.bK e,p.hi,p.cf,p.ph,p.pg,λb a=>⟨(p.pP b a).1,by have:=(p.pP b a).2;have:=e.1;omega⟩,p.uv,p.tW,p.ne,e.bZ p.b id,e.gL p.m id,p.g0⟩
theorem MP.out (p:MP σ0 σ L H held s0 P mb am x)(e:Ext T σ w)(hT:∀b,b<σ.size->T b->¬P b/\b≠mb/\b≠am/\σ0.size<=b):MP σ0 w L H held s0 P mb am x:=by
 have s:=e.1;have a:=p.b.lt;have j:=p.m.lt;have g:Ext (λb=>T b/\b<σ.size) σ w:=⟨e.1,λb a r=>e.2 b a λd=>r ⟨d,a⟩⟩;refine⟨Ext.fC p.e g λb a=>.inr (hT b a.2 a.1).2.2.2,p.h.bU g (λb a i d=>(hT b a d.1).1 i) (λb a=>?_) (λa=>?_),p.hi,p.cf,p.ph,p.pg,λb a=>⟨(p.pP b a).1,by have:=(p.pP b a).2;omega⟩,p.uv,p.tW,p.ne,e.bZ p.b λd=>(hT mb a d).2.1 rfl,e.gL p.m λd=>(hT am j d).2.2.1 rfl,p.g0⟩
 ·exact p.g0.1 b (hT b a.2 a.1).2.2.2
 ·exact p.g0.2 (hT _ a.2 a.1).2.2.2
theorem MP.step (p:MP σ0 σ L H held s0 P mb am x){ts':List eC}(e:Ext P σ w)(h':HH w (Grow P σ) {L with ts:=ts'} H'){held':List Pc}{s0':Sp}(hi':HI H' held' s0')(k:Qb H' H)(ph':∀g∈H'.bQ,g.ph=none) :
 MP σ0 w {L with ts:=ts'} H' held' s0' (Cut (Grow P σ) w) mb am x:=by
 have u:=e.1;have a:=p.b.lt;have r:=p.m.lt;have i:∀b,b<σ.size->¬P b->¬Cut (Grow P σ) w b:=λb d s j=>by
  rcases j.1 with h3|h3
  ·exact s h3
  ·omega
 refine⟨Ext.fC p.e e λb a=>.inr (p.pP b a).1,h'.cut,hi',p.cf.bU k,ph',by rw[k.2.1];exact p.pg,λb a=>⟨?_,a.2⟩,⟨p.uv.1,i mb a p.uv.2⟩,⟨p.tW.1,i am r p.tW.2⟩,p.ne,e.bZ p.b p.uv.2,e.gL p.m p.tW.2,p.g0⟩;have:=p.e.1;rcases a.1 with d|d
 ·exact(p.pP b d).1
 ·omega
theorem MP.fO (p:MP σ0 σ L H held s0 P mb am x)(e:Ext (λb=>b=mb\/b=am) σ w)(hb:bX w mb (uU L.p am y))(hm:dK w am .i64 bN y.asked):MP σ0 w L H held s0 P mb am y:=by
 have j:=e.1;have a:∀b,(b=mb\/b=am)->σ0.size<=b/\¬P b:=λb hb=>by
  rcases hb with rfl|rfl
  ·exact p.uv
  ·exact p.tW
 exact⟨Ext.fC p.e e λb hb=>.inr (a b hb).1,p.h.bU e (λb _ d g=>(a b g).2 d) (λb hb=>p.g0.1 b (a b hb).1) (λhb=>p.g0.2 (a _ hb).1),p.hi,p.cf,p.ph,p.pg,λb hb=>⟨(p.pP b hb).1,by have:=(p.pP b hb).2;omega⟩,p.uv,p.tW,p.ne,hb,hm,p.g0⟩
theorem MP.st (p:MP σ0 σ L H held s0 P mb am x){i:Nat}{u:Value}(hi:i<8)(y:Me)(he:(uU L.p am x).set i u=uU L.p am y)(ha:y.asked=x.asked){K:aP}(hK:∀w,Ext (λb=>b=mb\/b=am) σ w->MP σ0 w L H held s0 P mb am y->K w):dL (Addr.add ⟨mb,0,none⟩ i) u σ K:=by
 refine p.b.s1 (by simp[uU];omega) λw o b=>?_;have e:Ext (λb=>b=mb\/b=am) σ w:=o.ext.sub λb d=>.inl d;rw[zG,he]at b;exact hK w e (p.fO e b (by rw[ha];exact o.ext.gL p.m λ(a:am=mb)=>p.ne a.symm))
theorem MP.bP (p:MP σ0 σ L H held s0 P mb am x):∀g∈H.bQ,g.bP=[]:=λg b=>by
 have a:=(p.hi.th g b).ph;unfold iE at a;rw[p.ph g b]at a;exact a
theorem yd (p:MP σ0 σ L H held s0 P mb am x){R:aO}(hR:R true σ):Xu.c (aW mb) σ R:=by
 refine Xu.o ?_;unfold Xu.v;exact bY.intro (cK rfl (aG (p.b.rP rfl hR)))
theorem LO (p:MP σ0 σ L H held s0 P mb am x)(mi:lj x)(a:Int){R:aP}(hR:∀w,Ext (λb=>b=mb\/b=am) σ w->MP σ0 w L H held s0 P mb am (x.forget a)->R w):Xw.c (aW mb) a σ R:=by
 refine Xw.o ?_;unfold Xw.v;have y:=mi.jc;have u:0<=(bV x.asked a).getD 0/\(bV x.asked a).getD 0<=16384:=by
  cases hm:bV x.asked a with
  | none=>exact⟨ri _,by decide⟩
  | some z=>exact mi.v _ (KX hm)
 refine aG (p.b.rI rfl (aG (p.b.rM rfl ⟨x.asked,p.m,ar O O (aG ?_)⟩)));refine p.st O {x with sum:=x.sum-(bV x.asked a).getD 0} rfl rfl λs j d=>aG (d.b.rM rfl ⟨x.asked,d.m,λw2 o2 _ i=>?_⟩);have o2:=o2 am rfl;have e:Ext (λb=>b=mb\/b=am) s w2:=o2.ext.sub λb r=>.inr r;exact hR w2 (j.trans e) (d.fO e (o2.ext.bZ d.b λ(g:mb=am)=>p.ne g) i)
set_option maxRecDepth 8000 in
theorem IG (p:MP σ0 σ L H held s0 P mb am x)(hc:x.calls<=899)(e:Int)(gO:Bool){R:aP}(hR:∀w,Ext (λb=>b=mb\/b=am) σ w->MP σ0 w L H held s0 P mb am ((x.count e gO).eO (H.sp.st.count 2:Nat))->R w) :
 X0.c (aW mb) e (some (Addr.add ⟨mb,0,none⟩ (if gO then 5 else 6))) σ R:=by
 refine X0.o ?_;unfold X0.v;unfold Me.calls at hc;refine qm (λw=>Ext (λb=>b=mb\/b=am) σ w/\MP σ0 w L H held s0 P mb am (x.count e gO)) (λw ⟨j,d⟩=>?_) λJ A=>?_
 ·generalize hy:x.count e gO=y at d;have M:y.sum=x.sum/\y.dM=x.dM/\y.dJ=x.dJ:=by subst hy;unfold Me.count;split<;>(try split)<;>exact⟨rfl,rfl,rfl⟩
  refine aG (d.b.rI rfl (aG (d.b.rI rfl (aG (d.st O {y with dM:=if y.sum>y.dM then y.sum else y.dM} rfl rfl λC K r=>?_)))))
  refine⟨λm=>bO C m,Ext.refl _ _,aG (bX.rH (c:=bN) (y:=y.dJ) r.b rfl (aG (bX.rH (c:=.p) (y:=some ⟨L.p,0,none⟩) r.b rfl (Eh r.h r.hi r.bP λU z _=>⟨z,?_⟩))))⟩;have F:=r.fr z;have G:H.sp.st.count 2<=128:=by
   have S:=vM (a:=2) (l:=H.sp.st);have N:=p.hi.sl;have Q:=p.pg;omega
  refine ar O O (aG (F.st O (y.eO (H.sp.st.count 2:Nat)) rfl rfl λB E D=>?_));exact hR B (((j.trans K).trans (bO.to z)).trans E) (by rw[hy];exact D)
 ·refine cI (λu=>?_) λu=>?_
  ·have g:e=0:=by simpa using u
   subst g;cases gO with
   | true=>exact aG (p.b.rI rfl (cA (m:=x.cS+1) aA O (aG (p.st (i:=5) O {x with cS:=x.cS+1} rfl rfl λs j d=>A s ⟨j,d⟩))))
   | false=>exact aG (p.b.rI rfl (cA (m:=x.fU+1) aA O (aG (p.st (i:=6) O {x with fU:=x.fU+1} rfl rfl λs j d=>A s ⟨j,d⟩))))
  ·have g:e≠0:=by simpa using u
   refine aG (p.b.rI rfl (cA (m:=x.iv+1) aA O (aG (p.st O {x with iv:=x.iv+1} rfl rfl λs j d=>A s ⟨j,?_⟩))));have:x.count e gO = {x with iv:=x.iv+1}:=by unfold Me.count;exact zA g
   rw[this];exact d
theorem iF.rest (o:iF H H')(h:∀g∈H.bQ,g.ph=none):∀g∈H'.bQ,g.ph=none:=λg d=>by
 obtain⟨j,b⟩:=zN d;have a:=o.ph j;unfold gW at a;rw[b]at a;simp only[Ad]at a;rw[a];cases hk:H.bQ[j]? with
 | none=>rfl
 | some g'=>exact h g' (zE hk)
def Me.gO (x:Me)(a size e:Int)(D:Nat):Me:=((if e=0 then(x.forget a).add a size else x).count e true).eO (D:Int)
def Me.je (x:Me)(a e:Int)(D:Nat):Me:=((if e=0 then x.forget a else x).count e false).eO (D:Int)
def Md (P:Rg)(mb am:Nat):Rg:=λb=>P b\/b=mb\/b=am
set_option maxRecDepth 8000 in
theorem Ll (p:MP σ0 σ L H held s0 P mb am x)(mi:lj x)(hc:x.calls<=899)(thread size align:Int){R:Int->Int->Hp->Prop}
 (hR:∀a e w ts H' held' s0' P',Ext (Md P mb am) σ w->MP σ0 w {L with ts:=ts} H' held' s0' P' mb am (x.gO a size e (H'.sp.st.count 2))->(∀b,P' b->P b\/σ.size<=b)->Qb H' H->uA H size align H' a e->U5 H thread 0 size align 0 H' a e->R a e w) :
 XD.c (aW mb) thread size align σ R:=by
 refine XD.o ?_;unfold XD.v;refine yd p (cG rfl (aG (p.b.rP rfl ?_)));obtain⟨H',a,r,N,o,Q⟩:=Why p.hi thread size align;refine PJ DY p.h p.cf.2.2 N λv1 i S G=>?_;obtain⟨held',s0',E⟩:=o.hi;have M:=p.step S G E o.kp (o.rest p.ph);have D:∀b,Cut (Grow P σ) v1 b->P b\/σ.size<=b:=λb g=>g.1;have s:Ext (Md P mb am) σ v1:=S.sub λb g=>.inl g;have B:∀{u u':Hp},Ext (λb=>b=mb\/b=am) u u'->Ext (Md P mb am) u u':=λe=>e.sub λb g=>.inr g;refine qm (λw=>Ext (Md P mb am) σ w/\MP σ0 w {L with ts:=i} H' held' s0' (Cut (Grow P σ) v1) mb am (if r=0 then(x.forget a).add a size else x)) (λw ⟨K,j⟩=>?_) λJ A=>?_
 ·refine aG (IG j ?_ r true λw3 C y=>hR a r w3 i H' held' s0' _ (K.trans (B C)) y D o.kp Q N);split<;>exact hc
 ·refine cI (λF=>?_) λF=>?_
  ·have d:r=0:=by simpa using F
   have hsz:1<=size/\size<=16384:=by
    rcases Q with⟨G,_⟩|⟨_,_,h2,_⟩
    ·exact absurd d G
    ·exact⟨h2.1,h2.2.1⟩
   rw[zB d]at A;have hs:=mi.jc;have hv:0<=(bV x.asked a).getD 0/\(bV x.asked a).getD 0<=16384:=by
    cases hm:bV x.asked a with
    | none=>exact⟨ri _,by decide⟩
    | some z=>exact mi.v _ (KX hm)
   refine LO M mi a λZ K j=>aG (j.b.rM rfl ⟨am,_,rfl,j.m,λw3 o3 W=>?_⟩);have C:Ext (λb=>b=mb\/b=am) Z w3:=o3.ext.sub λb g=>.inr g;have y:MP σ0 w3 {L with ts:=i} H' held' s0' (Cut (Grow P σ) v1) mb am ⟨dF (cT x.asked a) a size,x.sum-(bV x.asked a).getD 0,x.dM,x.dJ,x.cS,x.fU,x.iv⟩:=j.fO C (o3.ext.bZ j.b λ(X:mb=am)=>p.ne X) W;have Y:(x.forget a).sum=x.sum-(bV x.asked a).getD 0:=rfl;refine aG (y.b.rI rfl (ar aC aC (aG (y.st O ((x.forget a).add a size) rfl rfl λU V p4=>A U ⟨((s.trans (B K)).trans (B C)).trans (B V),p4⟩))))
  ·have d:r≠0:=by simpa using F
   rw[zA d]at A;exact A v1 ⟨s,M⟩
set_option maxRecDepth 8000 in
theorem SC (p:MP σ0 σ L H held s0 P mb am x)(mi:lj x)(hc:x.calls<=899)(thread addr:Int)(hx:iO addr){R:aN}
 (hR:∀e w ts H' held' s0' P',Ext (Md P mb am) σ w->MP σ0 w {L with ts:=ts} H' held' s0' P' mb am (x.je addr e (H'.sp.st.count 2))->(∀b,P' b->P b\/σ.size<=b)->Qb H' H->uz H thread addr H' e->R e w) :
 Zc.c (aW mb) thread addr σ R:=by
 refine Zc.o ?_;unfold Zc.v;refine yd p (cG rfl (aG (p.b.rP rfl ?_)));obtain⟨H',g,G,o,E⟩:=R9 p.hi thread addr hx;refine Θ DY p.h p.cf.2.2 G λv1 i D N=>?_;obtain⟨held',s0',y⟩:=o.hi;have B:=p.step D N y o.kp (o.rest p.ph);have s:∀b,Cut (Grow P σ) v1 b->P b\/σ.size<=b:=λb j=>j.1;have d:Ext (Md P mb am) σ v1:=D.sub λb j=>.inl j;have C:∀{u u':Hp},Ext (λb=>b=mb\/b=am) u u'->Ext (Md P mb am) u u':=λe=>e.sub λb j=>.inr j;refine qm (λw=>Ext (Md P mb am) σ w/\MP σ0 w {L with ts:=i} H' held' s0' (Cut (Grow P σ) v1) mb am (if g=0 then x.forget addr else x)) (λw ⟨A,z⟩=>?_) λJ m=>?_
 ·refine aG (IG z ?_ g false λQ K M=>hR g Q i H' held' s0' _ (A.trans (C K)) M s o.kp E);split<;>exact hc
 ·refine cI (λr=>?_) λr=>?_
  ·have a:g=0:=by simpa using r
   rw[zB a]at m;exact LO B mi addr λF A z=>m F ⟨d.trans (C A),z⟩
  ·have a:g≠0:=by simpa using r
   rw[zA a]at m;exact m v1 ⟨d,B⟩
end Go.Ar
namespace Go.Ar
open Go Go.Vc Go.Proofs
open Go.Vc (bV dF cT)
open Go.Bu (iR)
variable {σ σ0 v w w':Hp}{F P Q X T:Rg}{L:dR}{H H':Hw}{held:List Pc}{s0:Sp}{t n:Nat}{g:Th}{mb am m:Nat}{x y:Me}
theorem Tz {s:Sl}{bs:List Bk}(hs:cR s 4 (jz bs) σ F)(hl:bs.length<=1000000)(hb:∀b∈bs,0<=b.2.1/\b.2.1<=270000){R:aN}(hR:∀σ',bO σ σ'->R ((bs.map λb=>b.2.1).sum) σ') :
 Xb.c s ⟨60,#[],#[]⟩ σ R:=by
 refine Xb.o ?_;unfold Xb.v;have P:s.len=bs.length:=by have:=hs.1;rw[As]at this;omega
 refine Kf (a:=bN) (bb:=bN) (λ(sum i:Int) w=>∃k:Nat,i=k/\k<=bs.length/\bO σ w/\sum=((bs.take k).map λb=>b.2.1).sum) (λ_ i _=>bs.length-i.toNat) ⟨0,rfl,O,Ext.refl _ _,by simp⟩ ?_;rintro(sum:Int) (i:Int) w ⟨k,rfl,hk,e,rfl⟩;refine cI (λy=>?_) λN=>?_
 ·have E:k<bs.length:=by omega
  have j:bs[k]?=some bs[k]:=cM _;generalize bs[k]=b at j;have J:=hb b (zE j);have g:=Vl (l:=bs.take k) (f:=λb:Bk=>b.2.1) (c:=270000) λb h=>hb b (mc h);have x:(bs.take k).length=k:=by rw[zO];omega
  rw[x]at g;have d:((bs.take (k+1)).map λb:Bk=>b.2.1).sum=((bs.take k).map λb:Bk=>b.2.1).sum+b.2.1:=by rw[zg,j];simp
  refine EH (aH.bK (aH.cut hs) e) j λbb o r=>dS (r 0 _ rfl) (dS (r 1 _ rfl) (dS (r 2 _ rfl) (dS (r 3 _ rfl) ?_)));refine nw (cs:=[.int .i64 0,.int .i64 0,.int .i64 0,.int .i64 0]) λQ A C H=>H.s1 aA λv3 o3 L=>L.s1 aA λS o4 M=>M.s1 aA λU o5 z=>z.s1 aA λv6 o6 p=>?_;have K:bO w v6:=Ext.fresh (Ext.fresh (Ext.fresh (Ext.fresh C o3.ext λi u=>O) o4.ext λi u=>O) o5.ext λi u=>O) o6.ext λi u=>by omega
  refine p.rI rfl (p.rI rfl (p.rI rfl (p.rI rfl ?_)));refine HR (all := #[.agg #[.int .i64 b.1,.int .i64 b.2.1,.int .i64 b.2.2.1,.int .i64 b.2.2.2]]) (by kernel_rfl) aA ?_;refine XI.o ?_;unfold XI.v;refine nw (cs:=[.int .i64 b.1,.int .i64 b.2.1,.int .i64 b.2.2.1,.int .i64 b.2.2.2]) λV G D B=>B.rI rfl (ar O O (cA (m:=k+1) O O ⟨⟨k+1,rfl,O,(e.trans K).trans D,d.symm⟩,O⟩))
 ·have:k=bs.length:=by omega
  subst this;rw[zl];exact hR w e
def DZ (l:List (Int×Bk)):Int:=(l.map λe=>e.2.2.1).sum
theorem IW (hi:HI H held s0){bs:List Bk}(hl:jn H.live bs):(bs.map λb=>(b.1,b)).Perm H.live:=by
 have g:(bs.map λb=>(b.1,b)).Nodup:=qL.2 (hl.qc.imp λ{a b} h e=>by have:=congrArg Prod.fst e;simp only at this;omega);have i:H.live.Nodup:=by
  have:=qL.1 hi.lk;exact this.imp λ{a b} h e=>h (by rw[e])
 rw[xp g i];intro e;rw[zC];constructor
 ·rintro⟨b,hb,rfl⟩;exact(hl.mem b).1 hb
 ·intro he;have d:=(hi.lv e he).1;exact⟨e.2,(hl.mem e.2).2 (by rw[d];exact he),by rw[d]⟩
theorem J9 {l l':List Int}(h:l.Perm l'):l.sum=l'.sum:=by
 induction h with
 | nil=>rfl
 | cons a _ ih=>simp only[zm];omega
 | swap a b l=>simp only[zm];omega
 | trans _ _ h1 h2=>omega
theorem WkW (hi:HI H held s0){bs:List Bk}(hl:jn H.live bs):(bs.map λb=>b.2.1).sum=DZ H.live:=by
 have a:=J9 ((IW hi hl).map λe=>e.2.2.1);rw[zt]at a;exact a
def Aj (H:Hw):Nat:=V0 H+Ve Uf H+Ve pX H
def w8:List Value:=[.int .i64 0,.int .i64 0,.int .i64 0,.int .i64 0,.int .i64 0,.int .i64 0,.int .i64 0,.int .i64 0,.int .i64 0,.int .i64 0]
set_option maxRecDepth 16000 in
theorem Mg (p:MP σ0 σ L H held s0 P mb am x){R:Int->Int->Int->Int->Int->Int->Int->Int->Int->Int->Hp->Prop}
 (hR:∀w,bO σ w->wJ H->R x.sum (DZ H.live) (Aj H:Nat) (Ve Uu H:Nat) (Ve VB H*256:Nat) x.dM x.dJ (x.cS:Nat) (x.fU:Nat) (x.iv:Nat) w):XG.c (aW mb) σ R:=by
 refine XG.o ?_;unfold XG.v;refine nw (cs:=w8) λv hz e J=>yd (p.fr e) (cG rfl (aG ((p.fr e).b.rP rfl (Eh (p.fr e).h p.hi p.bP λz K so=>?_))));refine nw (cs:=V5) λv13 X U S=>tI S _ _ _ _ _ _ _ _ _ _ _ λv24 W g=>?_;have B:bO z v24:=Ext.fresh U W λi (hi:i=z.size)=>by omega
 have ev:bO v v24:=K.trans B;have d:=(p.fr e).fr ev;obtain⟨N,G,Q,V,F,M,D⟩:=so;refine⟨λm=>bO v24 m,Ext.refl _ _,aG (bX.rH (c:=bN) (y:=x.sum) d.b rfl (aG (bX.rH (c:=.p) (y:=some ⟨L.p,0,none⟩) d.b rfl (bX.rH (c:=bN) (y:=(V0 H:Nat)) g rfl (bX.rH (c:=bN) (y:=0) g rfl (cA (m:=V0 H) O O ?_))))))⟩;refine bX.rH (c:=bN) (y:=(Ve Uf H:Nat)) g rfl (cA (m:=V0 H+Ve Uf H) O O (bX.rH (c:=bN) (y:=(Ve pX H:Nat)) g rfl (cA (m:=Aj H) (by unfold Aj;omega) (by unfold Aj;omega) ?_)));refine bX.rH (c:=bN) (y:=(Ve Uu H:Nat)) g rfl (bX.rH (c:=bN) (y:=(Ve VB H:Nat)) g rfl (cA (m:=Ve VB H*256) O O ?_));refine aG (bX.rH (c:=bN) (y:=x.dM) d.b rfl (aG (bX.rH (c:=bN) (y:=x.dJ) d.b rfl (aG (bX.rH (c:=bN) (y:=(x.cS:Int)) d.b rfl (aG (bX.rH (c:=bN) (y:=(x.fU:Int)) d.b rfl (aG (bX.rH (c:=bN) (y:=(x.iv:Int)) d.b rfl ?_)))))))));refine JD d.h p.hi λs v25 bs j E C=>⟨j,?_⟩;refine Tz (bR.fX C) (by rw[E.len];exact p.hi.iN) (λb J=>?_) λA r=>⟨j.trans r,?_⟩
 ·have:=p.hi.jD ((E.mem b).1 J);simp only at this;omega
 rw[WkW p.hi E];have u:bX A σ.size w8:=((ev.trans j).trans r).bZ J id;unfold w8 at u;refine u.s1 aA λv1 o1 b1=>b1.s1 aA λv2 o2 b2=>b2.s1 aA λv3 o3 b3=>b3.s1 aA λv4 o4 b4=>b4.s1 aA λv5 o5 b5=>b5.s1 aA λv6 o6 Z=>Z.s1 aA λv7 o7 b7=>b7.s1 aA λv8 o8 b8=>b8.s1 aA λv9 o9 b9=>b9.s1 aA λv10 fV a=>?_;refine a.rI rfl (a.rI rfl (a.rI rfl (a.rI rfl (a.rI rfl (a.rI rfl (a.rI rfl (a.rI rfl (a.rI rfl (a.rI rfl (hR v10 ?_ ⟨N,G,Q,V,F,M,D⟩))))))))));have Y:Ext (· = σ.size) A v10:=((((((((o1.ext.trans o2.ext).trans o3.ext).trans o4.ext).trans o5.ext).trans o6.ext).trans o7.ext).trans o8.ext).trans o9.ext).trans fV.ext;exact Ext.fresh (((e.trans ev).trans j).trans r) Y λi (hi:i=σ.size)=>by omega
theorem Wlr (h:HH σ F L H)(hp:1<=H.cf.aF){R:aO}(hR:∀σ',bO σ σ'->R true σ'):QB.c (aW L.p) σ R:=by
 refine QB.o ?_;unfold QB.v;refine bY.intro (cK rfl (PB h λw e=>?_));have:decide ((H.cf.aF:Int)>0)=true:=zV O;rw[this];exact hR w e
theorem I3 (e0:bO σ0 σ)(h:HH σ P L H)(hi:HI H held s0)(hc:my H)(hph:∀g∈H.bQ,g.ph=none)(hpg:H.cf.aF<=128)(hP:∀b,P b->σ0.size<=b/\b<σ.size)(hg:iY (λb=>σ0.size<=b)/\¬σ0.size<=1){R:Option Addr->Int->Hp->Prop}
 (hR:∀w mb am,bO σ w->σ.size<=mb->σ.size<=am->MP σ0 w L H held s0 P mb am oL->R (some ⟨mb,0,none⟩) 0 w):QK.c (aW L.p) σ R:=by
 refine QK.o ?_;unfold QK.v;refine Wlr h hc.1 λv e=>cG rfl (tL λs x r u=>nw (cs:=uU L.p v.size oL) λm y i z=>?_);have j:=e.1;have A:=e0.1;have a:=(e.trans r).trans i;refine hR m s.size v.size a O j ⟨e0.trans a,h.bK a,hi,hc,hph,hpg,λb d=>⟨(hP b d).1,by have:=(hP b d).2;omega⟩,⟨O,λd=>by have:=(hP _ d).2;omega⟩,⟨O,λd=>by have:=(hP _ d).2;omega⟩,O,z,i.gL (u _ _) id,hg⟩
end Go.Ar